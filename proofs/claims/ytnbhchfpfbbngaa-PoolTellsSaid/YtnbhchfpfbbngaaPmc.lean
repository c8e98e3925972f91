/- alive13. -/
import Derived.Test.YtnbhchfpfbbngaaPmb
namespace Go.Proofs.Ytnbhchfpfbbngaa
open Go.ChangeShapes Go.WideShapes Go.ChangeAt Go.RowKit Go.Joins Go.Sort
set_option linter.unusedVariables false
set_option linter.unusedSimpArgs false
attribute [local go_sem] Oper.quiet Oper.quietAt Oper.quietUpon
def Sp.pl (at_ : Nat) (q : Pl) : Sp :=
  ⟨at_, fun v => ∃ cs, v = .agg cs, fun v w => ∃ cs, v = .agg cs ∧ PlV w cs q, ⟨.agg #[], _, rfl⟩, fun _ _ _ ⟨cs, e, h⟩ hb => ⟨cs, e, h.below hb⟩⟩
theorem exP {dst : Option Tmp} {x : Operand} {type : TypeId} {pos : String} {after : Array Edge} {guard : Option (Nat × Bool)} {a : Act} {w : World} {T : TypeId} {cs : Array Value} {g : Nat} (hx : a.eval x = .pointer (some ⟨g, 0, none⟩)) (hc : Bx w g T cs) (hn : cs.size = 65) : (execOp a.eval ⟨dst, .load 42 x, type, pos, after, guard⟩).run Try.prog w = .ok (.value (.agg cs)) w := by
  have := run_loadAt_mid (P := Try.prog) w g 0 42 cs.toList _ (fun j v hv => by rw [Nat.zero_add, hc.cell]; simpa using hv) Try.underlying42 rfl (by rw [infoP, Array.length_toList, hn])
  rw [Array.toArray_toList] at this
  exact ex_ld hx this
def r0 : Nat → Int := fun _ => 0
theorem p0_right : rightP (ofR r0) = true := right_ofR fun _ _ => Int.le_refl _
theorem take0 : (takeS newL 0).2 = (0, 0) := by kernel_rfl
theorem p0_f : (ofR r0).f = newL := congrArg Pl.f new_free.symm
theorem p0_take : (takeS (ofR r0).f 0).2.1 = 0 ∧ (takeS (ofR r0).f 0).2.2 = 0 := by rw [p0_f, take0]; exact ⟨rfl, rfl⟩
theorem p0_all : takeP (ofR r0) = (ofR (updI r0 0 1), 0, 0) ∧ shareP (ofR (updI r0 0 1)) 0 = (ofR (updI r0 0 2), 0) ∧ dropP (ofR (updI r0 0 2)) 0 = (ofR (updI r0 0 1), 0) ∧ dropP (ofR (updI r0 0 1)) 0 = (ofR r0, 0) ∧ rightP (ofR (updI r0 0 1)) = true := by
  have h := pool_back p0_right p0_take.2
  rw [p0_take.1] at h
  exact ⟨h.1, h.2.1, h.2.2.1, h.2.2.2.1, h.2.2.2.2.2 1 (by omega)⟩
theorem canon_fits (r : Nat → Int) : ∀ x ∈ (ofR r).f, x.fits := rp_fits (canon_rp fun n => r n == 0)
theorem upd_fits {r : Nat → Int} (h : ∀ n, n < 64 → I64 (r n)) (j : Nat) {x : Int} (hx : I64 x) : rFits (ofR (updI r j x)) :=
  ⟨canon_fits _, fun n hn => by
    show I64 (updI r j x n)
    unfold updI
    split
    · exact hx
    · exact h n hn⟩
theorem r0_fits : ∀ n, n < 64 → I64 (r0 n) := fun n _ => by unfold I64 r0; omega
set_option maxHeartbeats 8000000 in
set_option maxRecDepth 100000 in
theorem alive13_v (w : World) : Calls Try.prog 20 #[] w fun e w' => e = .returned (.bool true) ∧ Below w.heap.size w w' := by
  obtain ⟨a1, a2, a3, a4, a5⟩ := p0_all
  have f1 : rFits (ofR (updI r0 0 1)) := upd_fits r0_fits 0 (by unfold I64; omega)
  have f2 : rFits (ofR (updI r0 0 2)) := upd_fits r0_fits 0 (by unfold I64; omega)
  have hu1 : (ofR (updI r0 0 1)).r 0 = 1 := rfl
  have HN := Lib.hid (fun (W : World) => newP_v W)
  have HT : Hid (∀ (W : World) (cs : Array Value), PlV W cs (ofR r0) → _) := Lib.hid (fun W cs h => takeP_v h (canon_fits _))
  have HS : Hid (∀ (W : World) (cs : Array Value), PlV W cs (ofR (updI r0 0 1)) → _) := Lib.hid (fun W cs h => share_v h (canon_fits _) 0)
  have HD2 : Hid (∀ (W : World) (cs : Array Value), PlV W cs (ofR (updI r0 0 2)) → _) := Lib.hid (fun W cs h => dropP_v h f2 0)
  have HD1 : Hid (∀ (W : World) (cs : Array Value), PlV W cs (ofR (updI r0 0 1)) → _) := Lib.hid (fun W cs h => dropP_v h f1 0)
  have HR : Hid (∀ (W : World) (cs : Array Value), PlV W cs (ofR (updI r0 0 1)) → _) := Lib.hid (fun W cs h => rightP_v h (canon_fits _))
  have HSM : Hid (∀ (W : World) (cs cs' : Array Value), PlV W cs (ofR r0) → PlV W cs' (ofR r0) → _) := Lib.hid (fun W cs cs' h h' => samePool_v h h' rfl (fun _ _ => rfl) r0_fits)
  rw [a1] at HT
  rw [a2] at HS
  rw [a3] at HD2
  rw [a4] at HD1
  rw [a5] at HR
  unfold GivesP1 at HN
  unfold GivesK3 at HT
  unfold GivesK2 at HS HD2 HD1
  have e0 : (ofR fun _ => 0) = ofR r0 := rfl
  rw [e0] at HN
  clear a1 a2 a3 a4 a5 f1 f2 e0
  obtain ⟨p0, hp0⟩ : ∃ p, p = ofR r0 := ⟨_, rfl⟩
  obtain ⟨p1, hp1⟩ : ∃ p, p = ofR (updI r0 0 1) := ⟨_, rfl⟩
  obtain ⟨p2, hp2⟩ : ∃ p, p = ofR (updI r0 0 2) := ⟨_, rfl⟩
  rw [← hp0] at HN HT HD1 HSM
  rw [← hp1] at HT HS HD2 HD1 HR hu1
  rw [← hp2] at HS HD2
  have HU1 := Lib.hid hu1
  clear hp0 hp1 hp2 hu1
  simp only at HT HS HD2 HD1
  go_enter Try.func20, Try.ntmps20
  go_wp2_with (first
    | (with_reducible refine alP ?_)
    | ((with_reducible refine stPn cs2 ?_ ?_ zP_size V2.out.size V2.out.one ?_); rfl; rfl)
    | ((with_reducible refine stPn cs3 ?_ ?_ zP_size V3.out.size V3.out.one ?_); rfl; rfl)
    | ((with_reducible refine ldP w2.heap.size ?_ X2.out V2.out.size ?_); rfl)
    | ((with_reducible refine ldP w3.heap.size ?_ X3.out V3.out.size ?_); rfl)
    | ((with_reducible refine ldP w3.heap.size ?_ X4.out V4.out.size ?_); rfl)
    | ((with_reducible refine stPg w3.heap.size cs4 ?_ ?_ X34.out V3.out.size V4.out.size V4.out.one ?_); rfl; rfl)
    | ((with_reducible refine stPg w3.heap.size cs5 ?_ ?_ X45.out V4.out.size V5.out.size V5.out.one ?_); rfl; rfl)
    | (go_at_call 24; with_reducible refine (HD1.out _ _ W4.out).mono ?_
       rintro e w5 ⟨cs5, rfl, hv5, hk5, hb5⟩
       have V5 := Lib.hid hv5
       have X45 := Lib.hid (X4.out.below hb5)
       have X25 := Lib.hid (X24.out.below hb5)
       have K5 := Lib.hid (K4.out.trans (hb5.mono K4.out.size))
       have F5 := Lib.hid (hk5 w3.heap.size X4.out.lt F4.out)
       have W25 := Lib.hid (W24.out.below hb5)
       clear hv5 hk5 hb5)
    | (go_at_call 24; with_reducible refine (HD2.out _ _ W3.out).mono ?_
       rintro e w4 ⟨cs4, rfl, hv4, hk4, hb4⟩
       have V4 := Lib.hid hv4
       have X34 := Lib.hid (X3.out.below hb4)
       have F4 : Hid (∀ v, cs4[0]? = some v → Far v w3.heap.size) := Lib.hid (hk4 w3.heap.size X3.out.lt F3.out)
       have K4' := K3.out.trans (hb4.mono K3.out.size)
       have K4 : Hid (Below w.heap.size w (w4.setRow w3.heap.size cs4)) := Lib.hid (below_setRow K4' (by have := X2.out.lt; have := KW2.out.size; have := KW3.out.size; omega) _)
       have W4 : Hid (PlV (w4.setRow w3.heap.size cs4) cs4 p1) := Lib.hid (hv4.row F4.out _)
       have X4 : Hid (Bx (w4.setRow w3.heap.size cs4) w3.heap.size 42 cs4) := Lib.hid (X34.out.row _)
       have X24 : Hid (Bx (w4.setRow w3.heap.size cs4) w2.heap.size 42 cs2) := Lib.hid ((X23.out.below hb4).orow (by have := KW23.out; omega) _)
       have W24 : Hid (PlV (w4.setRow w3.heap.size cs4) cs2 p1) := Lib.hid ((W23.out.below hb4).row F23.out _)
       clear hv4 hk4 hb4 K4')
    | (go_at_call 23
       refine (HS.out _ _ W2.out).mono ?_
       rintro e w3 ⟨cs3, rfl, hv3, hk3, hb3⟩
       have V3 := Lib.hid hv3
       have hA3 := (Below.refl w3.heap.size w3).alloc (Nat.le_refl _) (.cells cs3 42)
       have KW3 := Lib.hid (K2.out.trans (hb3.mono K2.out.size))
       have K3 := Lib.hid (KW3.out.trans (hA3.mono KW3.out.size))
       have W3 := Lib.hid (hv3.below hA3)
       have X3 := Lib.hid (Bx.new w3 42 cs3)
       have X23 := Lib.hid ((X2.out.below hb3).below hA3)
       have KW23 : Hid (w2.heap.size < w3.heap.size) := Lib.hid (X2.out.below hb3).lt
       have F3 : Hid (∀ v, cs3[0]? = some v → Far v w3.heap.size) := Lib.hid (hv3.far (Nat.le_refl _))
       have W23 := Lib.hid ((W2.out.below hb3).below hA3)
       have F23 : Hid (∀ v, cs2[0]? = some v → Far v w3.heap.size) := Lib.hid (V2.out.far (Nat.le_of_lt KW23.out))
       clear hv3 hk3 hb3 hA3)
    | (go_at_call 21
       refine (HT.out _ _ V1.out).mono ?_
       rintro e w2 ⟨cs2, rfl, hv2, hk2, hb2⟩
       have V2 := Lib.hid hv2
       have hA2 := (Below.refl w2.heap.size w2).alloc (Nat.le_refl _) (.cells cs2 42)
       have KW2 := Lib.hid (K1.out.trans (hb2.mono K1.out.size))
       have K2 := Lib.hid (KW2.out.trans (hA2.mono KW2.out.size))
       have W2 := Lib.hid (hv2.below hA2)
       have X2 := Lib.hid (Bx.new w2 42 cs2)
       clear hv2 hk2 hb2 hA2)
    | (go_at_call 28
       refine (HN.out _).mono ?_
       rintro e w1 ⟨cs1, rfl, hv1, hb1⟩
       have V1 := Lib.hid hv1
       have K1 := Lib.hid hb1
       clear hv1 hb1))
  have X46 := Lib.hid (X45.out.row cs5)
  have X26 : Hid (Bx (w5.setRow w3.heap.size cs5) w2.heap.size 42 cs2) := Lib.hid (X25.out.orow (by have := KW23.out; omega) cs5)
  have V6 : Hid (PlV (w5.setRow w3.heap.size cs5) cs5 p0) := Lib.hid (V5.out.row F5.out _)
  have K6 : Hid (Below w.heap.size w (w5.setRow w3.heap.size cs5)) := Lib.hid (below_setRow K5.out (by have := X2.out.lt; have := KW2.out.size; have := KW3.out.size; omega) _)
  have V2w : Hid (PlV (w5.setRow w3.heap.size cs5) cs2 p1) := Lib.hid (W25.out.row F23.out _)
  obtain ⟨w6, hw6⟩ : ∃ w6, w6 = w5.setRow w3.heap.size cs5 := ⟨_, rfl⟩
  rw [← hw6] at X46 X26 V6 K6 V2w ⊢
  clear hw6
  have hc1 : w6.cell? ⟨w2.heap.size, 1, none⟩ = some (.int .i64 1) := by rw [X26.out.cell, V2.out.at_ 0 (by omega), HU1.out]
  have hz2 := X26.out.lt
  have gc : ∀ (d : Nat) (os : Array Obj) (b o : Nat), b < w6.heap.size → (grow (redrawn w6 d) os).cell? ⟨b, o, none⟩ = w6.cell? ⟨b, o, none⟩ := fun d os b o h => (below_regrown _ d os).cell (p := ⟨b, o, none⟩) h
  refine wp_region_rel1 [Sp.pl 26 p0, Sp.call 27 (.bool true), Sp.call 31 (.bool true)] (by kernel_rfl) (by kernel_rfl) ?_
  intro V hV
  obtain ⟨c26, e26⟩ : ∃ cs, V 26 = .agg cs := hV 26
  have e27 : V 27 = .bool true := hV 27
  have e31 : V 31 = .bool true := hV 31
  repeat (refine rel_quiet rfl rfl ?_; go_big_quiet_step (fail); refine wpQuiet_nil ?_)
  refine rel_fact (.agg cs5) (by kernel_rfl) rfl (fun w' hb hf => exP rfl (X46.out.below hb) V5.out.size) ?_
  go_big_quiet_step (fail)
  refine wpQuiet_nil ?_
  refine rel_special (Sp.pl 26 p0) (by kernel_rfl) rfl (fun w' hb hf => ?_) ?_
  · refine becomes_call (f := 28) (args := #[]) ?_ ((HN.out w').mono ?_)
    · go_simp
    · rintro e w'' ⟨cs, rfl, hv, hb2⟩
      exact ⟨_, rfl, hb2, ⟨_, rfl⟩, _, rfl, hv⟩
  go_big_quiet_step (fail)
  refine wpQuiet_nil ?_
  simp only [e26]
  refine rel_special (Sp.call 27 (.bool true)) (by kernel_rfl) rfl (fun w' hb hf => ?_) ?_
  · obtain ⟨c, e, hv⟩ : ∃ cs, Value.agg c26 = .agg cs ∧ PlV w' cs p0 := hf _ (List.Mem.head _) (by kernel_rfl)
    cases e
    refine becomes_known (f := 25) (args := #[.agg cs5, .agg c26]) ?_ (HSM.out w' cs5 c26 (V6.out.below hb) hv)
    go_simp
  go_big_quiet_step (fail)
  refine wpQuiet_nil ?_
  simp only [e27]
  repeat (refine rel_quiet rfl rfl ?_; go_big_quiet_step (fail); refine wpQuiet_nil ?_)
  refine rel_fact (.agg cs2) (by kernel_rfl) rfl (fun w' hb hf => exP rfl (X26.out.below hb) V2.out.size) ?_
  go_big_quiet_step (fail)
  refine wpQuiet_nil ?_
  refine rel_special (Sp.call 31 (.bool true)) (by kernel_rfl) rfl (fun w' hb hf => ?_) ?_
  · refine becomes_known (f := 22) (args := #[.agg cs2]) ?_ (HR.out w' cs2 (V2w.out.below hb))
    go_simp
  go_big_quiet_step (fail)
  refine wpQuiet_nil ?_
  simp only [e31]
  repeat (refine rel_quiet rfl rfl ?_; go_big_quiet_step (fail); refine wpQuiet_nil ?_)
  intro w9 hb9 hf
  clear hf gc hc1
  go_wp2
  go_ret
  exact ⟨by first | rfl | simp, K6.out.trans (hb9.mono K6.out.size)⟩
end Go.Proofs.Ytnbhchfpfbbngaa
