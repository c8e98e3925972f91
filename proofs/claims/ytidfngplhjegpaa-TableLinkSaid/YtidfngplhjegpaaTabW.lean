/- table.write, Write, Put; the document's EPut: what they answer. -/
import Derived.Test.YtidfngplhjegpaaTabG
import Derived.Test.YtidfngplhjegpaaRamB
namespace Go.Proofs.Ytidfngplhjegpaa
open Go.RowKit
set_option linter.unusedVariables false

def wrE (zs : List Int) (f k K N : Int) : Int := if packE K N ≠ 0 then packE K N else if plc zs.length f k < 0 then 2 else 0
def wrL (zs : List Int) (f k K N : Int) : List Int := if wrE zs f k K N = 0 then putN zs (plc zs.length f k).toNat (packV K N) 4 else zs
theorem wr_cases (zs : List Int) (f k K N : Int) :
    ((packE K N = 5 ∨ packE K N = 2) ∧ wrE zs f k K N = packE K N ∧ wrL zs f k K N = zs) ∨
    (packE K N = 0 ∧ ¬ plcOk zs.length f k ∧ wrE zs f k K N = 2 ∧ wrL zs f k K N = zs) ∨
    (packE K N = 0 ∧ plcOk zs.length f k ∧ wrE zs f k K N = 0 ∧ wrL zs f k K N = putN zs (64 * f + 4 * k).toNat (packV K N) 4) := by
  have hp : packE K N = 5 ∨ packE K N = 2 ∨ packE K N = 0 := by
    unfold packE; split
    · exact .inl rfl
    · split
      · exact .inr (.inl rfl)
      · exact .inr (.inr rfl)
  by_cases h : packE K N = 0
  · by_cases h2 : plcOk zs.length f k
    · have e : wrE zs f k K N = 0 := by unfold wrE; rw [if_neg (by omega), if_neg (fun h => plc_neg.1 h h2)]
      exact .inr (.inr ⟨h, h2, e, by unfold wrL; rw [if_pos e, plc_yes h2]⟩)
    · have e : wrE zs f k K N = 2 := by unfold wrE; rw [if_neg (by omega), if_pos (plc_neg.2 h2)]
      exact .inr (.inl ⟨h, h2, e, by unfold wrL; rw [if_neg (by omega)]⟩)
  · have e : wrE zs f k K N = packE K N := by unfold wrE; rw [if_pos h]
    exact .inl ⟨by omega, e, by unfold wrL; rw [if_neg (by omega)]⟩
def WrP (T : TypeId) (w : World) (base : Nat) (A : Option Addr) (len c : Nat) (E : Int) (zs : List Int) (e : Ending) (w' : World) : Prop := e = .returned (.int .i64 E) ∧ Own .u8 T w' base A len c zs ∧ Below base w w'

set_option maxHeartbeats 4000000 in
theorem twr_any (A : Option Addr) (len c : Nat) (zs : List Int) (f k K N : Int) (w : World) (base : Nat) (ho : Own .u8 5 w base A len c zs) (hB : base ≤ w.heap.size) (hn : len ≤ 140737488355328) (k0 : 0 ≤ k) (k1 : k < 8) :
    Calls Try.prog 48 #[.slice A len c, .int .i64 f, .int .i64 k, .agg #[.int .i64 K, .int .i64 N]] w (WrP 5 w base A len c (wrE zs f k K N) (wrL zs f k K N)) := by
  have hl := ho.1
  have HO := Lib.hid ho
  have HPK := Lib.hid (fun W => pack_any K N W)
  clear ho
  rcases wr_cases zs f k K N with ⟨h, e1, e2⟩ | ⟨h, h2, e1, e2⟩ | ⟨h, h2, e1, e2⟩
  · rw [e1, e2]
    clear e1 e2 hl
    generalize packV K N = v at *
    generalize packE K N = E at *
    rcases h with rfl | rfl
    all_goals
      go_enter Try.func48, Try.ntmps48
      go_wp2_with (go_at_call 50; refine (HPK.out _).mono ?_; rintro e w1 ⟨rfl, hw⟩; rw [hw]; clear hw)
      go_ret
      exact ⟨rfl, HO.out.below (((Below.refl w.heap.size w).alloc (Nat.le_refl _) _).alloc (by simp) _) (Nat.le_refl _), ((Below.refl _ _).alloc hB _).alloc (by simp; omega) _⟩
  · rw [h] at HPK
    rw [e1, e2]
    clear e1 e2 h
    generalize packV K N = v at *
    unfold plcOk at h2
    by_cases hf : f < 0 ∨ 64 ≤ f
    · have e : Hid (frameF f = -1) := Lib.hid (by unfold frameF; rw [if_pos (by omega)])
      clear h2 hl hf
      go_enter Try.func48, Try.ntmps48
      go_wp2_with (first
        | (go_at_call 50; refine (HPK.out _).mono ?_; rintro e w1 ⟨rfl, hw⟩; rw [hw]; clear hw)
        | (go_at_call 19; refine (frame_any f _).mono ?_; rintro e' w' ⟨rfl, hw⟩; rw [hw, e.out]; clear hw))
      go_ret
      exact ⟨rfl, HO.out.below (((Below.refl w.heap.size w).alloc (Nat.le_refl _) _).alloc (by simp) _) (Nat.le_refl _), ((Below.refl _ _).alloc hB _).alloc (by simp; omega) _⟩
    · have e : Hid (frameF f = f * 64) := Lib.hid (by unfold frameF; rw [if_neg (by omega)])
      have f0 : 0 ≤ f := by omega
      have f1 : f < 64 := by omega
      have hno : (len : Int) - 4 < f * 64 + 4 * k := by omega
      clear h2 hl hf
      go_enter Try.func48, Try.ntmps48
      go_wp2_with (first
        | (go_at_call 50; refine (HPK.out _).mono ?_; rintro e w1 ⟨rfl, hw⟩; rw [hw]; clear hw)
        | (go_at_call 19; refine (frame_any f _).mono ?_; rintro e' w' ⟨rfl, hw⟩; rw [hw, e.out]; clear hw)
        | (go_at_call 35; refine (rset_no A len c (f * 64 + 4 * k) 4 v _ hn (by omega)).mono ?_; rintro e w2 ⟨rfl, hw2⟩; rw [hw2]; clear hw2))
      go_ret
      exact ⟨rfl, HO.out.below (((Below.refl w.heap.size w).alloc (Nat.le_refl _) _).alloc (by simp) _) (Nat.le_refl _), ((Below.refl _ _).alloc hB _).alloc (by simp; omega) _⟩
  · rw [h] at HPK
    rw [e1, e2]
    clear e1 e2 h
    generalize packV K N = v at *
    unfold plcOk at h2
    have e : Hid (frameF f = f * 64) := Lib.hid (by unfold frameF; rw [if_neg (by omega)])
    obtain ⟨f0, f1, _, _, h3⟩ := h2
    obtain ⟨p, hp⟩ : ∃ p : Nat, f * 64 + 4 * k = p := ⟨(f * 64 + 4 * k).toNat, by omega⟩
    have ea : (64 * f + 4 * k).toNat = p := by omega
    rw [ea]
    have hpl : (p : Int) + 4 ≤ (len : Int) := by omega
    have HP := Lib.hid hp
    clear hl ea h3 hp
    go_enter Try.func48, Try.ntmps48
    go_wp2_with (first
      | (go_at_call 50; refine (HPK.out _).mono ?_; rintro e w1 ⟨rfl, hw⟩; rw [hw]; clear hw)
      | (go_at_call 19; refine (frame_any f _).mono ?_; rintro e' w' ⟨rfl, hw⟩; rw [hw, e.out]; clear hw)
      | (go_at_call 35; rw [HP.out]; refine (rset_yes A len c zs p 4 v _ base (HO.out.below (((Below.refl w.heap.size w).alloc (Nat.le_refl _) _).alloc (by simp) _) (Nat.le_refl _)) hn (by omega) (by omega) hpl).mono ?_; rintro e w2 ⟨rfl, ho2, hb2⟩; have HQ := Lib.hid ho2; clear ho2))
    go_ret
    exact ⟨rfl, HQ.out, (((Below.refl _ _).alloc hB _).alloc (by simp; omega) _).trans hb2⟩

def tputE (zs : List Int) (root page K N : Int) : Int := if leafE zs root page ≠ 0 then leafE zs root page else wrE zs (leafV zs root page) (page % 8) K N
def tputW (zs : List Int) (root page K N : Int) : List Int := if leafE zs root page ≠ 0 then zs else wrL zs (leafV zs root page) (page % 8) K N
def tputL (zs : List Int) (root page K N : Int) : List Int := if tputE zs root page K N = 0 then tputW zs root page K N else []
theorem leaf0_page {zs : List Int} {root page : Int} (h : leafE zs root page = 0) : 0 ≤ page ∧ page < 64 := by
  unfold leafE at h
  split at h
  · cases h
  · omega

set_option maxHeartbeats 4000000 in
theorem tWrite_any (A : Option Addr) (len c : Nat) (zs : List Int) (root page K N : Int) (w : World) (base : Nat) (ho : Own .u8 5 w base A len c zs) (hB : base ≤ w.heap.size) (hb : Bytes zs) (hn : len ≤ 140737488355328) :
    Calls Try.prog 40 #[.slice A len c, .int .i64 root, .int .i64 page, .agg #[.int .i64 K, .int .i64 N]] w (WrP 5 w base A len c (tputE zs root page K N) (tputW zs root page K N)) := by
  have hr := ho.row
  have HLF := Lib.hid (fun W (hW : Below w.heap.size w W) => leaf_any A len c zs root page W _ (hr.below hW) hW.size hb hn)
  have HWR := Lib.hid (fun W (hW : Below w.heap.size w W) f k k0 k1 => twr_any A len c zs f k K N W base (ho.below hW (Nat.le_refl _)) (Nat.le_trans hB hW.size) hn k0 k1)
  have HO := Lib.hid ho
  clear hr ho hb
  by_cases h : leafE zs root page = 0
  · obtain ⟨p0, p1⟩ := leaf0_page h
    have e1 : tputE zs root page K N = wrE zs (leafV zs root page) (page % 8) K N := by unfold tputE; rw [if_neg (by omega)]
    have e2 : tputW zs root page K N = wrL zs (leafV zs root page) (page % 8) K N := by unfold tputW; rw [if_neg (by omega)]
    rw [e1, e2]
    rw [h] at HLF
    clear e1 e2 h
    generalize leafV zs root page = v at *
    go_enter Try.func40, Try.ntmps40
    go_wp2_with fail
    refine (HLF.out _ ((Below.refl _ _).alloc (Nat.le_refl _) _)).mono ?_
    rintro e w1 ⟨rfl, hb1⟩
    obtain ⟨hc1, hn1, hz1⟩ := step1 hb1
    simp only [World.size_alloc] at hb1
    have hbw : Below w.heap.size w w1 := ((Below.refl _ _).alloc (Nat.le_refl _) _).trans (hb1.mono (by omega))
    go_wp2_with fail
    refine (HWR.out _ hbw v (page % 8) (by omega) (by omega)).mono ?_
    rintro e w2 ⟨rfl, ho2, hb2⟩
    have HQ := Lib.hid ho2
    clear ho2
    go_wp2
    go_ret
    exact ⟨rfl, HQ.out, (hbw.mono hB).trans hb2⟩
  · have e1 : tputE zs root page K N = leafE zs root page := by unfold tputE; rw [if_pos h]
    have e2 : tputW zs root page K N = zs := by unfold tputW; rw [if_pos h]
    rw [e1, e2]
    have hne : (leafE zs root page != 0) = true := by simp [h]
    clear e1 e2 h
    generalize leafE zs root page = E at *
    go_enter Try.func40, Try.ntmps40
    go_wp2_with fail
    refine (HLF.out _ ((Below.refl _ _).alloc (Nat.le_refl _) _)).mono ?_
    rintro e w1 ⟨rfl, hb1⟩
    simp only [World.size_alloc] at hb1
    have hbw : Below w.heap.size w w1 := ((Below.refl _ _).alloc (Nat.le_refl _) _).trans (hb1.mono (by omega))
    go_wp2
    go_ret
    exact ⟨rfl, HO.out.below hbw (Nat.le_refl _), hbw.mono hB⟩

def TPutP (T : TypeId) (E : Int) (zs : List Int) (w : World) (e : Ending) (w' : World) : Prop :=
  ∃ A' n' c', e = .returned (.tuple #[.slice A' n' c', .int .i64 E]) ∧ Own .u8 T w' w.heap.size A' n' c' zs ∧ Below w.heap.size w w'
theorem own_nil (T : TypeId) (w : World) (base : Nat) : Own .u8 T w base none 0 0 [] := ⟨rfl, Nat.le_refl _, by simp, fun h => absurd h (by omega)⟩

set_option maxHeartbeats 4000000 in
theorem tPut_any (A : Option Addr) (len c : Nat) (zs : List Int) (root page K N : Int) (w : World) (B : Nat) (hz : Row .u8 w B A len zs) (hB : B ≤ w.heap.size) (hb : Bytes zs) (hn : len ≤ 140737488355328) :
    Calls Try.prog 25 #[.slice A len c, .int .i64 root, .int .i64 page, .agg #[.int .i64 K, .int .i64 N]] w (TPutP 5 (tputE zs root page K N) (tputL zs root page K N) w) := by
  have HCL := Lib.hid (fun W (hW : Below B w W) => clone_any A len c zs W B (hz.below hW) (Nat.le_trans hB hW.size) hn)
  have HB := Lib.hid hb
  clear hz hb
  have hL : tputL zs root page K N = if tputE zs root page K N = 0 then tputW zs root page K N else [] := rfl
  have HL := Lib.hid hL
  clear hL
  by_cases h : tputE zs root page K N = 0
  · rw [if_pos h] at HL
    have HE := Lib.hid h
    go_enter Try.func25, Try.ntmps25
    go_wp2_with fail
    refine (HCL.out _ ((Below.refl _ _).alloc hB _)).mono ?_
    rintro e w1 ⟨A', c', rfl, ho1, hb1⟩
    obtain ⟨hc1, hn1, hz1⟩ := step1 hb1
    simp only [World.size_alloc] at hb1 ho1
    have HO1 := Lib.hid (ho1)
    clear ho1
    go_wp2_with fail
    refine (tWrite_any A' len c' zs root page K N _ (w.heap.size + 1) HO1.out (by omega) HB.out hn).mono ?_
    rintro e w2 ⟨rfl, ho2, hb2⟩
    have HQ := Lib.hid ho2
    rw [h]
    clear ho2
    go_wp2
    go_ret2
    refine ⟨A', len, c', by rw [HE.out]; rfl, ?_, ?_⟩
    · rw [HL.out]
      obtain ⟨q1, q2, q3, q4⟩ := HQ.out
      exact ⟨q1, q2, q3, fun hn => by obtain ⟨g, cur, e, hg, hh⟩ := q4 hn; exact ⟨g, cur, e, by omega, hh⟩⟩
    · exact ((Below.refl _ _).alloc (Nat.le_refl _) _).trans ((hb1.mono (by omega)).trans (hb2.mono (by omega)))
  · rw [if_neg h] at HL
    have hne : (tputE zs root page K N != 0) = true := by simp [h]
    have HE := Lib.hid h
    clear h
    go_enter Try.func25, Try.ntmps25
    go_wp2_with fail
    refine (HCL.out _ ((Below.refl _ _).alloc hB _)).mono ?_
    rintro e w1 ⟨A', c', rfl, ho1, hb1⟩
    obtain ⟨hc1, hn1, hz1⟩ := step1 hb1
    simp only [World.size_alloc] at hb1 ho1
    have HO1 := Lib.hid (ho1)
    clear ho1
    go_wp2_with fail
    refine (tWrite_any A' len c' zs root page K N _ (w.heap.size + 1) HO1.out (by omega) HB.out hn).mono ?_
    rintro e w2 ⟨rfl, ho2, hb2⟩
    clear ho2
    go_wp2
    go_ret2
    refine ⟨none, 0, 0, rfl, by rw [HL.out]; exact own_nil _ _ _, ?_⟩
    exact ((Below.refl _ _).alloc (Nat.le_refl _) _).trans ((hb1.mono (by omega)).trans (hb2.mono (by omega)))

set_option maxHeartbeats 4000000 in
theorem ePut_any (A : Option Addr) (len c : Nat) (zs : List Int) (root page K N : Int) (w : World) (B : Nat) (hz : Row .u8 w B A len zs) (hB : B ≤ w.heap.size) (hb : Bytes zs) (hn : len ≤ 140737488355328) (ri : I64 root) :
    Calls Try.prog 26 #[.slice A len c, .int .i64 root, .int .i64 page, .agg #[.int .i64 K, .int .i64 N]] w (TPutP 5 (tputE zs root page K N) (tputL zs root page K N) w) := by
  have HLF := Lib.hid (fun W (hW : Below B w W) => eleaf_any A len c zs root page W B (hz.below hW) (Nat.le_trans hB hW.size) hb hn ri)
  have HAP := Lib.hid (fun W (hW : Below B w W) p n v hp => aPut_any A len c zs p n v W B (hz.below hW) hb (Nat.le_trans hB hW.size) hn hp)
  have HPK := Lib.hid (fun W => dpack_any K N W)
  have HLN := Lib.hid hz.1
  clear hz hb
  by_cases h : leafE zs root page = 0
  · obtain ⟨p0, p1⟩ := leaf0_page h
    have e1 : tputE zs root page K N = wrE zs (leafV zs root page) (page % 8) K N := by unfold tputE; rw [if_neg (by omega)]
    have e2 : tputW zs root page K N = wrL zs (leafV zs root page) (page % 8) K N := by unfold tputW; rw [if_neg (by omega)]
    have e3 : tputL zs root page K N = if wrE zs (leafV zs root page) (page % 8) K N = 0 then wrL zs (leafV zs root page) (page % 8) K N else [] := by unfold tputL; rw [e1, e2]
    have hv := leafV_rng zs root page
    rw [e1, e3]
    rw [h] at HLF
    clear e1 e2 e3 h
    generalize leafV zs root page = v at *
    have HEN := Lib.hid (fun W => enumber_any A len c v (page % 8) W hn (by unfold I64; omega) (by unfold I64; omega) (by omega) (by omega))
    rcases wr_cases zs v (page % 8) K N with ⟨h, e1, e2⟩ | ⟨h, h2, e1, e2⟩ | ⟨h, h2, e1, e2⟩
    · rw [e1, if_neg (by omega)]
      clear e1 e2
      generalize packV K N = x at *
      generalize packE K N = E at *
      rcases h with rfl | rfl
      all_goals
        go_enter Try.func26, Try.ntmps26
        go_wp2_with fail
        refine (HLF.out _ ((Below.refl _ _).alloc hB _)).mono ?_
        rintro e w1 ⟨rfl, hb1⟩
        obtain ⟨hc1, hn1, hz1⟩ := step1 hb1
        simp only [World.size_alloc] at hb1
        have hbw : Below w.heap.size w w1 := ((Below.refl _ _).alloc (Nat.le_refl _) _).trans (hb1.mono (by omega))
        go_wp2_with fail
        refine (HPK.out _).mono ?_
        rintro e w2 ⟨rfl, hw⟩; rw [hw]; clear hw
        go_wp2
        go_ret2
        exact ⟨none, 0, 0, rfl, own_nil _ _ _, hbw.alloc hbw.size _⟩
    · have hpl := plc_no h2
      rw [HLN.out] at hpl
      rw [hpl] at HEN
      rw [h] at HPK
      rw [e1, if_neg (by decide)]
      have g1 : Hid (rgetE zs (-1) 4 = 2) := Lib.hid (by unfold rgetE; rw [if_pos (by omega)])
      clear e1 e2 h h2 hpl
      generalize packV K N = x at *
      go_enter Try.func26, Try.ntmps26
      go_wp2_with fail
      refine (HLF.out _ ((Below.refl _ _).alloc hB _)).mono ?_
      rintro e w1 ⟨rfl, hb1⟩
      obtain ⟨hc1, hn1, hz1⟩ := step1 hb1
      simp only [World.size_alloc] at hb1
      have hbw : Below w.heap.size w w1 := ((Below.refl _ _).alloc (Nat.le_refl _) _).trans (hb1.mono (by omega))
      go_wp2_with fail
      refine (HPK.out _).mono ?_
      rintro e w2 ⟨rfl, hw⟩; rw [hw]; clear hw
      go_wp2_with fail
      refine (HEN.out _).mono ?_
      rintro e w3 ⟨rfl, hw⟩; rw [hw]; clear hw
      go_wp2_with fail
      refine (HAP.out _ ((hbw.mono hB).alloc (by have := hbw.size; omega) _) (-1) 4 x (by omega)).mono ?_
      rintro e w4 ⟨A4, n4, c4, rfl, ho4, hb4⟩
      have hL4 : rputL zs (-1) 4 x = [] := by unfold rputL; rw [if_neg (by rw [g1.out]; decide)]
      rw [hL4] at ho4
      rw [g1.out]
      have HQ := Lib.hid ho4
      clear ho4 hL4
      simp only [World.size_alloc] at hb4 HQ
      go_wp2
      go_ret2
      refine ⟨A4, n4, c4, rfl, ?_, ?_⟩
      · obtain ⟨q1, q2, q3, q4⟩ := HQ.out
        exact ⟨q1, q2, q3, fun hn => by obtain ⟨g, cur, e, hg, hh⟩ := q4 hn; exact ⟨g, cur, e, by omega, hh⟩⟩
      · exact (hbw.alloc hbw.size _).trans (hb4.mono (by omega))
    · have hpl := plc_yes h2
      rw [HLN.out] at hpl
      rw [hpl] at HEN
      rw [h] at HPK
      rw [e1, if_pos rfl, e2]
      unfold plcOk at h2
      obtain ⟨_, _, _, _, h3⟩ := h2
      have g1 : rgetE zs (64 * v + 4 * (page % 8)) 4 = 0 := by unfold rgetE; rw [if_neg (by omega)]
      have g2 : Hid (rputL zs (64 * v + 4 * (page % 8)) 4 (packV K N) = putN zs (64 * v + 4 * (page % 8)).toNat (packV K N) 4) := Lib.hid (by unfold rputL; rw [if_pos g1]; rfl)
      have G1 := Lib.hid g1
      have hq0 : 0 ≤ 64 * v + 4 * (page % 8) := by omega
      have hq1 : 64 * v + 4 * (page % 8) ≤ 9223372036854775807 := by omega
      clear e1 e2 h hpl g1 h3
      generalize packV K N = x at *
      generalize 64 * v + 4 * (page % 8) = q at *
      go_enter Try.func26, Try.ntmps26
      go_wp2_with fail
      refine (HLF.out _ ((Below.refl _ _).alloc hB _)).mono ?_
      rintro e w1 ⟨rfl, hb1⟩
      obtain ⟨hc1, hn1, hz1⟩ := step1 hb1
      simp only [World.size_alloc] at hb1
      have hbw : Below w.heap.size w w1 := ((Below.refl _ _).alloc (Nat.le_refl _) _).trans (hb1.mono (by omega))
      go_wp2_with fail
      refine (HPK.out _).mono ?_
      rintro e w2 ⟨rfl, hw⟩; rw [hw]; clear hw
      go_wp2_with fail
      refine (HEN.out _).mono ?_
      rintro e w3 ⟨rfl, hw⟩; rw [hw]; clear hw
      go_wp2_with fail
      all_goals
        refine (HAP.out _ ((hbw.mono hB).alloc (by have := hbw.size; omega) _) _ 4 x (by omega)).mono ?_
        rintro e w4 ⟨A4, n4, c4, rfl, ho4, hb4⟩
        rw [g2.out] at ho4
        rw [G1.out]
        have HQ := Lib.hid ho4
        clear ho4
        simp only [World.size_alloc] at hb4 HQ
        go_wp2
        go_ret2
        refine ⟨A4, n4, c4, rfl, ?_, ?_⟩
        · obtain ⟨q1, q2, q3, q4⟩ := HQ.out
          exact ⟨q1, q2, q3, fun hn => by obtain ⟨g, cur, e, hg, hh⟩ := q4 hn; exact ⟨g, cur, e, by omega, hh⟩⟩
        · exact (hbw.alloc hbw.size _).trans (hb4.mono (by omega))
  · have e1 : tputE zs root page K N = leafE zs root page := by unfold tputE; rw [if_pos h]
    have e3 : tputL zs root page K N = [] := by unfold tputL; rw [e1, if_neg h]
    rw [e1, e3]
    have hne : (leafE zs root page != 0) = true := by simp [h]
    clear e1 e3 h
    generalize leafE zs root page = E at *
    go_enter Try.func26, Try.ntmps26
    go_wp2_with fail
    refine (HLF.out _ ((Below.refl _ _).alloc hB _)).mono ?_
    rintro e w1 ⟨rfl, hb1⟩
    simp only [World.size_alloc] at hb1
    have hbw : Below w.heap.size w w1 := ((Below.refl _ _).alloc (Nat.le_refl _) _).trans (hb1.mono (by omega))
    go_wp2
    go_ret2
    exact ⟨none, 0, 0, rfl, own_nil _ _ _, hbw⟩
end Go.Proofs.Ytidfngplhjegpaa
