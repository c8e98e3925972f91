/- IAll, IChoose. -/
import Derived.Test.YtnpmbjplmollkaaHpd
namespace Go.Proofs.Ytnpmbjplmollkaa
open Go.ChangeShapes Go.WideShapes Go.ChangeAt Go.RowKit Go.Joins
set_option linter.unusedVariables false
def roomB (G : Nat → Option Att) (p : Int) : Nat → Bool
  | 0 => true
  | j + 1 => roomB G p j && (decide (p - 1 + j < 0) || (decide (63 < p - 1 + j) || (G (p - 1 + j).toNat).isNone))
theorem roomB_iff (G : Nat → Option Att) (p : Int) : ∀ j, roomB G p j = true ↔ ∀ i : Nat, i < j → p - 1 + i < 0 ∨ 63 < p - 1 + i ∨ G (p - 1 + i).toNat = none
  | 0 => by simp [roomB]
  | j + 1 => by
    simp only [roomB, Bool.and_eq_true, Bool.or_eq_true, decide_eq_true_eq, Option.isNone_iff_eq_none, roomB_iff G p j]
    constructor
    · rintro ⟨h1, h2⟩ i hi
      by_cases e : i = j
      · subst e; exact h2
      · exact h1 i (by omega)
    · intro h
      exact ⟨fun i hi => h i (by omega), h j (by omega)⟩
theorem room_free {xs : List Rgn} (hr : rightL xs = true) {c p : Int} (hc : 1 ≤ c) (h0 : 0 ≤ p) (h1 : p + c ≤ 64) : roomB (gAt xs) p (c.toNat + 2) = freeB xs p c := by
  rw [Bool.eq_iff_iff, roomB_iff, free_iff (right_good hr)]
  constructor
  · intro h q t hq hh
    have hi := h (q - (p - 1)).toNat (by omega)
    have e : p - 1 + ((q - (p - 1)).toNat : Int) = q := by omega
    rw [e] at hi
    rcases hi with hi | hi | hi
    · omega
    · omega
    · unfold gAt at hi
      rw [Int.toNat_of_nonneg (by omega)] at hi
      exact at_none.1 hi t hq
  · intro h i hi
    by_cases a : p - 1 + (i : Int) < 0
    · exact .inl a
    · by_cases b : 63 < p - 1 + (i : Int)
      · exact .inr (.inl b)
      · refine .inr (.inr ?_)
        unfold gAt
        rw [Int.toNat_of_nonneg (by omega)]
        exact at_none.2 fun t ht => h _ t ht (by omega)
set_option maxHeartbeats 8000000 in
set_option maxRecDepth 100000 in
theorem iall_any (A : Option Addr) (n c : Nat) (xs : List Rgn) (count : Int) (w : World) (B : Nat) (hz : Rw fR 6 w B A n xs) (hB : B ≤ w.heap.size) (hbig : n ≤ 140737488355328) :
    Calls Try.prog 33 #[.slice A n c, .int .i64 count] w (Gives fI 1 3 w.heap.size w (allP xs count)) := by
  have hpg := hpages_any A n c xs w B hz hB hbig
  have HR := Lib.hid (fun w1 (h : Below w.heap.size w w1) => hright_any A n c xs w1 B (hz.below (h.mono hB)) (Nat.le_trans hB h.size) hbig)
  clear hbig
  cases hok : ascB 0 xs with
  | false =>
    rw [show allP xs count = [] from by unfold allP; rw [asc_right hok]; simp]
    rw [hok] at hpg
    have hpg := hpg.mono fun e w' h => pages_no h rfl
    clear hz
    go_enter Try.func33, Try.ntmps33
    go_wp2_with (first
    | ((with_reducible (refine st60 arr ?_ ?_ ?_ harr hone ?_)); rfl; rfl; rfl)
    | (go_at_call 40; refine hpg.mono ?_; rintro e w1 ⟨arr, rfl, harr, hone, hb1⟩; have HB1 := Lib.hid hb1; clear hb1))
    go_loopw [7, 8, 9, 10] (fun v7 v8 _ _ wr => v7 = .slice none 0 0 ∧ v8 = .int .i64 0 ∧ Hid (Below w.heap.size w wr)) (fun _ _ _ _ _ => 0)
    case atStart => exact ⟨rfl, rfl, Lib.hid (HB1.out.trans (((Below.refl w1.heap.size w1).alloc (Nat.le_refl _) _).mono HB1.out.size))⟩
    case round =>
      obtain ⟨rfl, rfl, HB⟩ := hrel
      go_wp2
      go_ret
      exact ⟨_, rfl, Os.nil, HB.out⟩
  | true =>
    rw [hok] at hpg
    have hpg := hpg.mono fun e w' h => pages_yes h rfl
    cases hr : rightL xs with
    | false =>
      rw [show allP xs count = [] from by unfold allP; rw [hr]; simp]
      rw [hr] at HR
      clear hz
      go_enter Try.func33, Try.ntmps33
      go_wp2_with (first
      | ((with_reducible (refine st60 arr ?_ ?_ ?_ harr hone ?_)); rfl; rfl; rfl)
      | (go_at_call 40; refine hpg.mono ?_; rintro e w1 ⟨arr, rfl, hP1, hb1⟩; have harr := hP1.size; have hone := hP1.one; have HP := Lib.hid hP1; have HB1 := Lib.hid hb1; clear hP1 hb1))
      go_loopw [7, 8, 9, 10] (fun v7 v8 _ _ wr => v7 = .slice none 0 0 ∧ v8 = .int .i64 0 ∧ Hid (Below w.heap.size w wr)) (fun _ _ _ _ _ => 0)
      case atStart => exact ⟨rfl, rfl, Lib.hid (HB1.out.trans (((Below.refl w1.heap.size w1).alloc (Nat.le_refl _) _).mono HB1.out.size))⟩
      case round =>
        obtain ⟨rfl, rfl, HB⟩ := hrel
        go_wp2_with (go_at_call 39; refine (HR.out wr HB.out).mono ?_; rintro e w2 ⟨rfl, hb2⟩)
        go_ret
        exact ⟨_, rfl, Os.nil, HB.out.trans (hb2.mono HB.out.size)⟩
    | true =>
      rw [hr] at HR
      by_cases hc1 : 1 ≤ count
      · by_cases hc2 : count ≤ 64
        · have YES : Hid (allP xs count = upTo xs count (65 - count).toNat) := Lib.hid (by unfold allP; rw [if_pos ⟨hr, hc1⟩])
          have HUS := Lib.hid (upTo_succ xs count)
          have HUL := Lib.hid (upTo_len xs count)
          have HU0 : Hid (upTo xs count 0 = []) := Lib.hid rfl
          have HRF := Lib.hid (fun (k : Nat) (hk : (k : Int) + count ≤ 64) => room_free hr hc1 (Int.natCast_nonneg k) hk)
          obtain ⟨fb, hfb⟩ : ∃ f : Nat → Bool, f = fun (k : Nat) => freeB xs k count := ⟨_, rfl⟩
          have HUS2 : Hid (∀ k, upTo xs count (k + 1) = upTo xs count k ++ if fb k = true then [(k : Int)] else []) := Lib.hid (by rw [hfb]; exact HUS.out)
          have HRF2 : Hid (∀ k : Nat, (k : Int) + count ≤ 64 → roomB (gAt xs) k (count.toNat + 2) = fb k) := Lib.hid (by rw [hfb]; exact HRF.out)
          obtain ⟨cN, hcN⟩ : ∃ m : Nat, (m : Int) = count := ⟨count.toNat, by omega⟩
          have HCN : Hid (count.toNat = cN) := Lib.hid (by omega)
          rw [HCN.out] at HRF2
          subst hcN
          generalize upTo xs cN = u at *
          generalize allP xs cN = al at *
          generalize gAt xs = G at *
          clear hz hr hfb HRF HUS hok HCN
          go_enter Try.func33, Try.ntmps33
          go_wp2_with (first
          | ((with_reducible (refine st60 arr ?_ ?_ ?_ harr hone ?_)); rfl; rfl; rfl)
          | (go_at_call 40; refine hpg.mono ?_; rintro e w1 ⟨arr, rfl, hP1, hb1⟩; have harr := hP1.size; have hone := hP1.one; have HP := Lib.hid hP1; have HB1 := Lib.hid hb1; clear hP1 hb1))
          have HAT : Hid (∀ i, i < 64 → ∃ v, (w1.alloc (.cells arr 60)).cell? ⟨w1.heap.size, i, none⟩ = some v ∧ PtA w1 (fun _ => True) v (G i)) := Lib.hid (fun i hi => by
            obtain ⟨v, hv, hp⟩ := HP.out.at_ i hi
            exact ⟨v, by rw [blk_cell (heap_alloc_last w1 _)]; exact hv, hp⟩)
          have HW2 : Hid (Below w.heap.size w (w1.alloc (.cells arr 60))) := Lib.hid (HB1.out.trans (((Below.refl w1.heap.size w1).alloc (Nat.le_refl _) _).mono HB1.out.size))
          clear harr hone HP hpg
          go_loopw [7, 8, 9, 10] (fun v7 v8 _ _ wr => ∃ k : Nat, k ≤ 65 - cN ∧ v8 = .int .i64 k ∧ Hid (Os fI 1 3 wr (w1.heap.size + 1) v7 (u k)) ∧ Hid (Below (w1.heap.size + 1) (w1.alloc (.cells arr 60)) wr)) (fun _ v8 _ _ _ => 65 - (intOf v8).toNat)
          case atStart => exact ⟨0, by omega, rfl, Lib.hid (by rw [HU0.out]; exact Os.nil), Lib.hid (Below.refl _ _)⟩
          case round =>
            obtain ⟨k, hk, rfl, HO, HB⟩ := hrel
            have hw1 := HB1.out.size
            have HBW := Lib.hid (HW2.out.trans (HB.out.mono (Nat.le_trans hw1 (Nat.le_succ _))))
            have hul := HUL.out k
            have hsz := HB.out.size
            rw [World.size_alloc] at hsz
            have hcall := HR.out wr HBW.out
            have M1 := Lib.hid (wrap_small ((k : Int) + cN) (by omega) (by omega))
            by_cases hlt : (k : Int) + cN ≤ 64
            · have HU := Lib.hid (HUS2.out k)
              have HRK := Lib.hid (HRF2.out k hlt)
              have M3 := Lib.hid (wrap_small ((k : Int) - 1) (by omega) (by omega))
              have M5 := Lib.hid (wrap_small ((k : Int) + 1) (by omega) (by omega))
              obtain ⟨m1, m2⟩ := M1.out
              obtain ⟨m3, m4⟩ := M3.out
              go_wp2_with (go_at_call 39; refine hcall.mono ?_; rintro e w2 ⟨rfl, hb2⟩)
              clear m1 m2 m3 m4
              obtain ⟨rb, hrb⟩ : ∃ f : Nat → Bool, f = fun j => roomB G k j := ⟨_, rfl⟩
              have HR0 : Hid (rb 0 = true) := Lib.hid (by rw [hrb]; rfl)
              have HRS : Hid (∀ j : Nat, rb (j + 1) = (rb j && (decide ((k : Int) - 1 + j < 0) || (decide (63 < (k : Int) - 1 + j) || (G ((k : Int) - 1 + j).toNat).isNone)))) := Lib.hid (by rw [hrb]; exact fun j => rfl)
              have HRK2 : Hid (rb (cN + 2) = fb k) := Lib.hid (by rw [hrb]; exact HRK.out)
              have HB2 := Lib.hid (HB.out.trans (hb2.mono hsz))
              have HO2 := Lib.hid (HO.out.below hb2 (Nat.le_refl _))
              have hs2 : w1.heap.size + 1 ≤ w2.heap.size := Nat.le_trans hsz hb2.size
              have hulb : (u k).length + 1 ≤ 1000000 := by omega
              have hk1 : k + 1 ≤ 65 - cN := by omega
              have hms2 : 65 - (k + 1) < 65 - k := by omega
              have HKK := Lib.hid (show Value.int .i64 ((k : Int) + 1) = Value.int .i64 ((k + 1 : Nat) : Int) from by rw [Int.natCast_succ])
              clear hrb HRK hcall hb2
              go_loopw [9, 10] (fun v9 v10 wr => ∃ (j : Nat) (qq : Int), Hid (qq = (k : Int) - 1 + j) ∧ j ≤ cN + 2 ∧ v10 = .int .i64 qq ∧ v9 = .bool (rb j) ∧ wr = w2) (fun _ v10 _ => 200 - (intOf v10 + 100).toNat)
              case atStart => exact ⟨0, (k : Int) - 1, Lib.hid (by simp), by omega, rfl, by rw [HR0.out], rfl⟩
              case round =>
                obtain ⟨j, qq, HQ, hj, rfl, rfl, rfl⟩ := hrel
                have hqe := HQ.out
                have N1 := Lib.hid (wrap_small (qq + 1) (by omega) (by omega))
                by_cases hjl : j < cN + 2
                · have hq1 : qq ≤ (k : Int) + cN := by omega
                  have hms : 200 - (qq + 1 + 100).toNat < 200 - (qq + 100).toNat := by omega
                  have HN := Lib.hid (show ((qq + 1 : Int)) = (k : Int) - 1 + ((j + 1 : Nat) : Int) from by omega)
                  have hj1 : j + 1 ≤ cN + 2 := by omega
                  have HRJ := Lib.hid (HRS.out j)
                  rw [← hqe] at HRJ
                  cases hrj : rb j with
                  | false =>
                    have HV : Hid (rb (j + 1) = false) := Lib.hid (by rw [HRJ.out, hrj]; rfl)
                    clear hqe hrj
                    obtain ⟨m1, m2⟩ := M1.out
                    obtain ⟨n1, n2⟩ := N1.out
                    go_wp2
                    clear m1 m2 n1 n2
                    go_roundw
                    case rel => exact ⟨j + 1, qq + 1, HN, hj1, rfl, by rw [HV.out], trivial⟩
                    case measure => simpa [intOf] using hms
                  | true =>
                    by_cases c1 : qq < 0
                    · have HV : Hid (rb (j + 1) = true) := Lib.hid (by rw [HRJ.out, hrj]; simp [c1])
                      clear hqe hrj
                      obtain ⟨m1, m2⟩ := M1.out
                      obtain ⟨n1, n2⟩ := N1.out
                      go_wp2
                      clear m1 m2 n1 n2
                      go_roundw
                      case rel => exact ⟨j + 1, qq + 1, HN, hj1, rfl, by rw [HV.out], trivial⟩
                      case measure => simpa [intOf] using hms
                    · have c1b : 0 ≤ qq := by omega
                      by_cases c2 : 63 < qq
                      · have HV : Hid (rb (j + 1) = true) := Lib.hid (by rw [HRJ.out, hrj]; simp [c2])
                        clear hqe hrj c1
                        obtain ⟨m1, m2⟩ := M1.out
                        obtain ⟨n1, n2⟩ := N1.out
                        go_wp2
                        clear m1 m2 n1 n2
                        go_roundw
                        case rel => exact ⟨j + 1, qq + 1, HN, hj1, rfl, by rw [HV.out], trivial⟩
                        case measure => simpa [intOf] using hms
                      · have c2b : qq ≤ 63 := by omega
                        obtain ⟨i, rfl⟩ := Int.eq_ofNat_of_zero_le c1b
                        have hi64 : i < 64 := by omega
                        have hii : (i : Int) < 64 := by omega
                        obtain ⟨v, hv, hp⟩ := HAT.out i hi64
                        have hv2 := (HB2.out.cell (p := ⟨w1.heap.size, i, none⟩) (Nat.lt_succ_self _)).trans hv
                        clear hv
                        cases hg : G i with
                        | none =>
                          rw [hg] at hp
                          have hp2 : v = .pointer none := hp
                          subst hp2
                          have HV : Hid (rb (j + 1) = true) := Lib.hid (by rw [HRJ.out, hrj]; simp [hg])
                          clear hqe hrj c1 c2 hg hp
                          obtain ⟨m1, m2⟩ := M1.out
                          obtain ⟨n1, n2⟩ := N1.out
                          go_wp2
                          clear m1 m2 n1 n2
                          go_roundw
                          case rel => exact ⟨j + 1, (i : Int) + 1, HN, hj1, rfl, by rw [HV.out], trivial⟩
                          case measure => simpa [intOf] using hms
                        | some a =>
                          rw [hg] at hp
                          obtain ⟨b, off, hp2, _, _, _⟩ := hp
                          subst hp2
                          have HV : Hid (rb (j + 1) = false) := Lib.hid (by rw [HRJ.out, hrj]; simp [hg]; omega)
                          clear hqe hrj c1 c2 hg
                          obtain ⟨m1, m2⟩ := M1.out
                          obtain ⟨n1, n2⟩ := N1.out
                          go_wp2
                          clear m1 m2 n1 n2
                          go_roundw
                          case rel => exact ⟨j + 1, (i : Int) + 1, HN, hj1, rfl, by rw [HV.out]; simp; omega, trivial⟩
                          case measure => simpa [intOf] using hms
                · have hje : j = cN + 2 := by omega
                  subst hje
                  rw [HRK2.out]
                  have hq1 : (k : Int) + cN < qq := by omega
                  have hq2 : ¬ (qq ≤ (k : Int) + cN) := by omega
                  have hd : decide (qq ≤ (k : Int) + cN) = false := decide_eq_false hq2
                  clear hqe
                  cases hf : fb k with
                  | false =>
                    have HU2 : Hid (u (k + 1) = u k) := Lib.hid (by rw [HU.out, hf]; simp)
                    clear hf
                    obtain ⟨m1, m2⟩ := M1.out
                    obtain ⟨m5, m6⟩ := M5.out
                    go_wp2
                    clear m1 m2 m5 m6
                    go_roundw
                    case rel => exact ⟨k + 1, hk1, HKK.out, Lib.hid (by rw [HU2.out]; exact HO2.out), HB2⟩
                    case measure => simpa [intOf] using hms2
                  | true =>
                    have HU2 : Hid (u (k + 1) = u k ++ [(k : Int)]) := Lib.hid (by rw [HU.out, hf]; simp)
                    clear hf
                    obtain ⟨m1, m2⟩ := M1.out
                    obtain ⟨m5, m6⟩ := M5.out
                    go_wp2_with (at_builtin; refine append_I rfl _ _ rfl (w1.heap.size + 1) u7 (u k) wr k wr.heap.size rfl rfl rfl HO2.out hs2 hulb ?_; intro g' c' w' ho hb3 hbg hcc hm)
                    clear m1 m2 m5 m6
                    go_roundw
                    case rel => exact ⟨k + 1, hk1, HKK.out, Lib.hid (by rw [HU2.out]; exact ho), Lib.hid (HB2.out.trans hb3)⟩
                    case measure => simpa [intOf] using hms2
            · have hke : k = 65 - cN := by omega
              have HU : Hid (u k = al) := Lib.hid (by rw [YES.out, hke]; congr 1; omega)
              have hlt2 : 64 < (k : Int) + cN := by omega
              clear hke
              obtain ⟨m1, m2⟩ := M1.out
              go_wp2_with (go_at_call 39; refine hcall.mono ?_; rintro e w2 ⟨rfl, hb2⟩)
              go_ret
              exact ⟨_, rfl, by rw [← HU.out]; exact (HO.out.below hb2 (Nat.le_refl _)).rebase (Nat.le_trans hw1 (Nat.le_succ _)), HBW.out.trans (hb2.mono HBW.out.size)⟩
        · have hc2b : 64 < count := by omega
          rw [show allP xs count = [] from by unfold allP; rw [if_pos ⟨hr, hc1⟩, show (65 - count).toNat = 0 from by omega]; rfl]
          clear hz
          go_enter Try.func33, Try.ntmps33
          go_wp2_with (first
          | ((with_reducible (refine st60 arr ?_ ?_ ?_ harr hone ?_)); rfl; rfl; rfl)
          | (go_at_call 40; refine hpg.mono ?_; rintro e w1 ⟨arr, rfl, hP1, hb1⟩; have harr := hP1.size; have hone := hP1.one; have HP := Lib.hid hP1; have HB1 := Lib.hid hb1; clear hP1 hb1))
          go_loopw [7, 8, 9, 10] (fun v7 v8 _ _ wr => v7 = .slice none 0 0 ∧ v8 = .int .i64 0 ∧ Hid (Below w.heap.size w wr)) (fun _ _ _ _ _ => 0)
          case atStart => exact ⟨rfl, rfl, Lib.hid (HB1.out.trans (((Below.refl w1.heap.size w1).alloc (Nat.le_refl _) _).mono HB1.out.size))⟩
          case round =>
            obtain ⟨rfl, rfl, HB⟩ := hrel
            go_wp2_with (go_at_call 39; refine (HR.out wr HB.out).mono ?_; rintro e w2 ⟨rfl, hb2⟩)
            go_ret
            exact ⟨_, rfl, Os.nil, HB.out.trans (hb2.mono HB.out.size)⟩
      · have hc1b : count < 1 := by omega
        rw [show allP xs count = [] from by unfold allP; rw [if_neg (by omega)]]
        clear hz
        go_enter Try.func33, Try.ntmps33
        go_wp2_with (first
        | ((with_reducible (refine st60 arr ?_ ?_ ?_ harr hone ?_)); rfl; rfl; rfl)
        | (go_at_call 40; refine hpg.mono ?_; rintro e w1 ⟨arr, rfl, hP1, hb1⟩; have harr := hP1.size; have hone := hP1.one; have HP := Lib.hid hP1; have HB1 := Lib.hid hb1; clear hP1 hb1))
        go_loopw [7, 8, 9, 10] (fun v7 v8 _ _ wr => v7 = .slice none 0 0 ∧ v8 = .int .i64 0 ∧ Hid (Below w.heap.size w wr)) (fun _ _ _ _ _ => 0)
        case atStart => exact ⟨rfl, rfl, Lib.hid (HB1.out.trans (((Below.refl w1.heap.size w1).alloc (Nat.le_refl _) _).mono HB1.out.size))⟩
        case round =>
          obtain ⟨rfl, rfl, HB⟩ := hrel
          go_wp2_with (go_at_call 39; refine (HR.out wr HB.out).mono ?_; rintro e w2 ⟨rfl, hb2⟩)
          go_ret
          exact ⟨_, rfl, Os.nil, HB.out.trans (hb2.mono HB.out.size)⟩
end Go.Proofs.Ytnpmbjplmollkaa
