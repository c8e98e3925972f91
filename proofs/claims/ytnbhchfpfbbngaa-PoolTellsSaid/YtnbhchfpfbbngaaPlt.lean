/- pool.Take, Share, Drop. -/
import Derived.Test.YtnbhchfpfbbngaaPls
namespace Go.Proofs.Ytnbhchfpfbbngaa
open Go.ChangeShapes Go.WideShapes Go.ChangeAt Go.RowKit Go.Joins
set_option linter.unusedVariables false
set_option linter.unusedSimpArgs false
/-- References that fit. -/
def rFits (p : Pl) : Prop := (∀ x ∈ p.f, x.fits) ∧ ∀ n, n < 64 → I64 (p.r n)
theorem meantP_1 {p : Pl} {n : Int} (h : rightP p = false) : meantP p n = 1 := by unfold meantP; rw [if_neg (by rw [h]; exact Bool.false_ne_true)]
theorem meantP_3 {p : Pl} {n : Int} (h : rightP p = true) (h2 : ¬ (0 ≤ n ∧ n < 64 ∧ p.r n.toNat ≠ 0)) : meantP p n = 3 := by unfold meantP; rw [if_pos h, if_neg h2]
theorem meantP_0 {p : Pl} {n : Int} (h : rightP p = true) (h2 : 0 ≤ n ∧ n < 64 ∧ p.r n.toNat ≠ 0) : meantP p n = 0 := by unfold meantP; rw [if_pos h, if_pos h2]
set_option maxHeartbeats 4000000 in
set_option maxRecDepth 100000 in
theorem meant_v {w : World} {cs : Array Value} {p : Pl} (h : PlV w cs p) (hf : ∀ x ∈ p.f, x.fits) (n : Int) :
    Calls Try.prog 40 #[.agg cs, .int .i64 n] w fun e w' => e = .returned (.int .i64 (meantP p n)) ∧ Below w.heap.size w w' := by
  have HW0 := Lib.hid ((Below.refl w.heap.size w).alloc (Nat.le_refl _) (.cells cs 42))
  have HBX := Lib.hid (Bx.new w 42 cs)
  have HP := Lib.hid h
  have HSZ := Lib.hid h.size
  have hri := rightP_v (h.below HW0.out) hf
  have HM1 := Lib.hid (meantP_1 (p := p) (n := n))
  have HM3 := Lib.hid (meantP_3 (p := p) (n := n))
  have HM0 := Lib.hid (meantP_0 (p := p) (n := n))
  clear h hf
  generalize meantP p n = res at *
  cases hr : rightP p with
  | false =>
    rw [hr] at hri
    have HRES := Lib.hid (HM1.out hr)
    clear hr
    go_enter Try.func40, Try.ntmps40
    go_wp2_with (first
      | ((with_reducible refine ldP w.heap.size ?_ HBX.out HSZ.out ?_); rfl)
      | (go_at_call 22; refine hri.mono ?_; rintro e w1 ⟨rfl, hb1⟩))
    go_ret
    exact ⟨ret_i HRES.out.symm, HW0.out.trans (hb1.mono HW0.out.size)⟩
  | true =>
    rw [hr] at hri
    have HR := Lib.hid hr
    clear hr
    by_cases h1 : n < 0
    · have HRES := Lib.hid (HM3.out HR.out (by omega))
      have hd : decide (n < 0) = true := decide_eq_true h1
      go_enter Try.func40, Try.ntmps40
      go_wp2_with (first
        | ((with_reducible refine ldP w.heap.size ?_ HBX.out HSZ.out ?_); rfl)
        | (go_at_call 22; refine hri.mono ?_; rintro e w1 ⟨rfl, hb1⟩))
      go_ret
      exact ⟨ret_i HRES.out.symm, HW0.out.trans (hb1.mono HW0.out.size)⟩
    by_cases h2 : 64 ≤ n
    · have HRES := Lib.hid (HM3.out HR.out (by omega))
      have hd : decide (n < 0) = false := decide_eq_false h1
      have hd2 : decide (64 ≤ n) = true := decide_eq_true h2
      go_enter Try.func40, Try.ntmps40
      go_wp2_with (first
        | ((with_reducible refine ldP w.heap.size ?_ HBX.out HSZ.out ?_); rfl)
        | (go_at_call 22; refine hri.mono ?_; rintro e w1 ⟨rfl, hb1⟩))
      go_ret
      exact ⟨ret_i HRES.out.symm, HW0.out.trans (hb1.mono HW0.out.size)⟩
    obtain ⟨m, rfl⟩ := Int.eq_ofNat_of_zero_le (show 0 ≤ n by omega)
    have hm : m < 64 := by omega
    have hm0 : (0 : Int) ≤ (m : Int) := by omega
    have hm64 : (m : Int) < 64 := by omega
    have HAT := Lib.hid (HP.out.at_ m hm)
    have HZ : Hid (p.r ((m : Nat) : Int).toNat = p.r m) := Lib.hid rfl
    have HZE : Hid (p.r m = 0 → res = 3) := Lib.hid (fun e => HM3.out HR.out (by rw [HZ.out, e]; simp))
    have HZN : Hid (p.r m ≠ 0 → res = 0) := Lib.hid (fun e => HM0.out HR.out ⟨hm0, hm64, by rw [HZ.out]; exact e⟩)
    clear HZ
    generalize p.r m = rm at *
    by_cases h0 : rm = 0
    · have HRES := Lib.hid (HZE.out h0)
      subst h0
      go_enter Try.func40, Try.ntmps40
      go_wp2_with (first
        | ((with_reducible refine ldP w.heap.size ?_ HBX.out HSZ.out ?_); rfl)
        | (go_at_call 22
           refine hri.mono ?_
           rintro e w1 ⟨rfl, hb1⟩
           have K1 := Lib.hid (HW0.out.trans (hb1.mono HW0.out.size))
           have hg1 : w.heap.size < w1.heap.size := (HBX.out.below hb1).lt
           have c1 : w1.cell? ⟨w.heap.size, 1 + m, none⟩ = some (.int .i64 0) := by rw [(HBX.out.below hb1).cell, Nat.add_comm]; exact HAT.out
           clear hb1))
      go_ret
      exact ⟨ret_i HRES.out.symm, K1.out⟩
    · have HRES := Lib.hid (HZN.out h0)
      have hq : (rm == 0) = false := by rw [beq_eq_false_iff_ne]; exact h0
      go_enter Try.func40, Try.ntmps40
      go_wp2_with (first
        | ((with_reducible refine ldP w.heap.size ?_ HBX.out HSZ.out ?_); rfl)
        | (go_at_call 22
           refine hri.mono ?_
           rintro e w1 ⟨rfl, hb1⟩
           have K1 := Lib.hid (HW0.out.trans (hb1.mono HW0.out.size))
           have hg1 : w.heap.size < w1.heap.size := (HBX.out.below hb1).lt
           have c1 : w1.cell? ⟨w.heap.size, 1 + m, none⟩ = some (.int .i64 rm) := by rw [(HBX.out.below hb1).cell, Nat.add_comm]; exact HAT.out
           clear hb1))
      go_ret
      exact ⟨ret_i HRES.out.symm, K1.out⟩
/-- The end of a function that hands back a pool out of block g. -/
theorem fin2 {w W : World} {g : Nat} {z cs : Array Value} {r : Pl × Int} (hx : Bx W g 42 z) (hv : PlV W cs r.1) (hf : ∀ v, cs[0]? = some v → Far v g) (hb : Below w.heap.size w W) (hg : w.heap.size ≤ g) : GivesP2 w r (.returned (.tuple #[.agg cs, .int .i64 r.2])) (W.setRow g cs) :=
  ⟨cs, rfl, hv.row hf _, below_setRow hb hg _⟩
theorem fin3 {w W : World} {g : Nat} {z cs : Array Value} {r : Pl × Int × Int} (hx : Bx W g 42 z) (hv : PlV W cs r.1) (hf : ∀ v, cs[0]? = some v → Far v g) (hb : Below w.heap.size w W) (hg : w.heap.size ≤ g) : GivesP3 w r (.returned (.tuple #[.agg cs, .int .i64 r.2.1, .int .i64 r.2.2])) (W.setRow g cs) :=
  ⟨cs, rfl, hv.row hf _, below_setRow hb hg _⟩
/-- The list of a pool that is handed back lies in new memory, or where it lay. -/
def FarK (w : World) (cs cs' : Array Value) : Prop := ∀ g, g < w.heap.size → (∀ v, cs[0]? = some v → Far v g) → ∀ v, cs'[0]? = some v → Far v g
def GivesK2 (w : World) (c0 : Array Value) (r : Pl × Int) (e : Ending) (w' : World) : Prop := ∃ cs, e = .returned (.tuple #[.agg cs, .int .i64 r.2]) ∧ PlV w' cs r.1 ∧ FarK w c0 cs ∧ Below w.heap.size w w'
def GivesK3 (w : World) (c0 : Array Value) (r : Pl × Int × Int) (e : Ending) (w' : World) : Prop := ∃ cs, e = .returned (.tuple #[.agg cs, .int .i64 r.2.1, .int .i64 r.2.2]) ∧ PlV w' cs r.1 ∧ FarK w c0 cs ∧ Below w.heap.size w w'
theorem fin2k {w W : World} {g : Nat} {z c0 cs : Array Value} {r : Pl × Int} (hx : Bx W g 42 z) (hv : PlV W cs r.1) (hf : ∀ v, cs[0]? = some v → Far v g) (hb : Below w.heap.size w W) (hg : w.heap.size ≤ g) (hk : FarK w c0 cs) : GivesK2 w c0 r (.returned (.tuple #[.agg cs, .int .i64 r.2])) (W.setRow g cs) :=
  ⟨cs, rfl, hv.row hf _, hk, below_setRow hb hg _⟩
theorem fin3k {w W : World} {g : Nat} {z c0 cs : Array Value} {r : Pl × Int × Int} (hx : Bx W g 42 z) (hv : PlV W cs r.1) (hf : ∀ v, cs[0]? = some v → Far v g) (hb : Below w.heap.size w W) (hg : w.heap.size ≤ g) (hk : FarK w c0 cs) : GivesK3 w c0 r (.returned (.tuple #[.agg cs, .int .i64 r.2.1, .int .i64 r.2.2])) (W.setRow g cs) :=
  ⟨cs, rfl, hv.row hf _, hk, below_setRow hb hg _⟩
theorem farK_set (w : World) (cs : Array Value) (m : Nat) (x : Value) : FarK w cs (cs.setIfInBounds (1 + m) x) := fun g _ h v hv => by
  rw [Array.getElem?_setIfInBounds_ne (by omega)] at hv
  exact h v hv
theorem zP_far {g : Nat} : ∀ v, zP[0]? = some v → Far v g := by
  intro v hv
  have : v = .slice none 0 0 := by
    rw [zP, Array.getElem?_append_left (by simp)] at hv
    simpa using hv.symm
  subst this
  intro b off m n c e
  cases e
theorem farK_z (w : World) (cs : Array Value) : FarK w cs zP := fun g _ _ => zP_far
theorem shareP_eq (p : Pl) (n : Int) : shareP p n = if meantP p n = 0 then (if p.r n.toNat < 4 then ((⟨p.f, updI p.r n.toNat (p.r n.toNat + 1)⟩ : Pl), (0 : Int)) else (zeroP, 4)) else (zeroP, meantP p n) := rfl
set_option maxHeartbeats 4000000 in
set_option maxRecDepth 100000 in
theorem share_v {w : World} {cs : Array Value} {p : Pl} (h : PlV w cs p) (hf : ∀ x ∈ p.f, x.fits) (n : Int) :
    Calls Try.prog 23 #[.agg cs, .int .i64 n] w (GivesK2 w cs (shareP p n)) := by
  have hA := (Below.refl w.heap.size w).alloc (Nat.le_refl _) (.cells cs 42)
  have HW0 := Lib.hid (hA.alloc hA.size (.cells zP 42))
  have HE : Hid ((w.alloc (.cells cs 42)).heap.size = w.heap.size + 1) := Lib.hid (by simp)
  have HX1 : Hid (Bx ((w.alloc (.cells cs 42)).alloc (.cells zP 42)) (w.heap.size + 1) 42 zP) := Lib.hid (by rw [← HE.out]; exact Bx.new _ _ _)
  have HX0 := Lib.hid ((Bx.new w 42 cs).below ((Below.refl _ _).alloc (Nat.le_refl _) (.cells zP 42)))
  have HP := Lib.hid h
  have HSZ := Lib.hid h.size
  have hme := meant_v (h.below HW0.out) hf n
  have HMZ := Lib.hid (meant_zero (p := p) (n := n))
  have HS := Lib.hid (shareP_eq p n)
  clear h hf hA
  generalize shareP p n = rs at *
  by_cases h0 : meantP p n = 0
  · rw [h0] at hme
    obtain ⟨hr, hn0, hn1, hnz⟩ := HMZ.out h0
    have HS2 : Hid (rs = if p.r n.toNat < 4 then ((⟨p.f, updI p.r n.toNat (p.r n.toNat + 1)⟩ : Pl), (0 : Int)) else (zeroP, 4)) := Lib.hid (by rw [HS.out, if_pos h0])
    obtain ⟨m, rfl⟩ := Int.eq_ofNat_of_zero_le hn0
    have hm : m < 64 := by omega
    have HAT := Lib.hid (HP.out.at_ m hm)
    have hnn : 0 ≤ p.r m := (rightP_iff.1 hr).1 m hm
    clear h0 HS HMZ hr hnz
    simp only [Int.toNat_natCast] at HS2
    have HUP := Lib.hid (fun (x : Int) => HP.out.set m x)
    obtain ⟨rm, hrm⟩ : ∃ rm, rm = p.r m := ⟨_, rfl⟩
    rw [← hrm] at HS2 HAT hnn
    clear hrm
    by_cases h4 : rm < 4
    · have HRES : Hid (rs = ((⟨p.f, updI p.r m (rm + 1)⟩ : Pl), (0 : Int))) := Lib.hid (by rw [HS2.out, if_pos h4])
      go_enter Try.func23, Try.ntmps23
      go_wp2_with (first
        | (with_reducible refine alP ?_)
        | ((with_reducible refine ldP w.heap.size ?_ HX0.out HSZ.out ?_); rfl)
        | ((with_reducible refine ldP w.heap.size ?_ HY0.out HV2.out.size ?_); rfl)
        | ((with_reducible refine stPg (w.heap.size + 1) _ ?_ ?_ HY1.out zP_size HV2.out.size HV2.out.one ?_); rfl; rfl)
        | (go_at_call 40
           refine hme.mono ?_
           rintro e w1 ⟨rfl, hb1⟩
           have K1 := Lib.hid (HW0.out.trans (hb1.mono HW0.out.size))
           have X0 := Lib.hid (HX0.out.below hb1)
           have X1 := Lib.hid (HX1.out.below hb1)
           have hg1 : w.heap.size < w1.heap.size := X0.out.lt
           have c1 : w1.cell? ⟨w.heap.size, 1 + m, none⟩ = some (.int .i64 rm) := by rw [X0.out.cell, Nat.add_comm]; exact HAT.out
           have f1 : w1.frozen? ⟨w.heap.size, 1 + m, none⟩ = false := X0.out.free _
           have HV2 : Hid (PlV (w1.setCell ⟨w.heap.size, 1 + m, none⟩ (.int .i64 (rm + 1))) (cs.setIfInBounds (1 + m) (.int .i64 (rm + 1))) ⟨p.f, updI p.r m (rm + 1)⟩) := Lib.hid (((HP.out.below K1.out).set m (rm + 1)).cell (((HP.out.set m (rm + 1)).far (Nat.le_refl _))) _ _)
           have HY0 : Hid (Bx (w1.setCell ⟨w.heap.size, 1 + m, none⟩ (.int .i64 (rm + 1))) w.heap.size 42 (cs.setIfInBounds (1 + m) (.int .i64 (rm + 1)))) := Lib.hid (X0.out.set _ _)
           have HY1 : Hid (Bx (w1.setCell ⟨w.heap.size, 1 + m, none⟩ (.int .i64 (rm + 1))) (w.heap.size + 1) 42 zP) := Lib.hid (X1.out.other (by omega) _ _)
           have HB2 : Hid (Below w.heap.size w (w1.setCell ⟨w.heap.size, 1 + m, none⟩ (.int .i64 (rm + 1)))) := Lib.hid (K1.out.setCell (p := ⟨w.heap.size, 1 + m, none⟩) (Nat.le_refl _) _)
           clear hb1))
      try simp only [Exit.inBlock, Exit.then]
      refine bodyPost_ret (v := .tuple #[.agg (cs.setIfInBounds (1 + m) (.int .i64 (rm + 1))), .int .i64 0]) ?_ rfl ?_
      rotate_left
      · rw [HRES.out]
        exact fin2k HY1.out HV2.out (HP.out.set m (rm + 1) |>.far (by omega)) HB2.out (by omega) (farK_set _ _ _ _)
      · rw [results_cell_tmp rfl]
        simp [asAddr, Result.andThen, Act.put, ldvP (HY1.out.row _) HV2.out.size]
    · have HRES : Hid (rs = (zeroP, (4 : Int))) := Lib.hid (by rw [HS2.out, if_neg h4])
      go_enter Try.func23, Try.ntmps23
      go_wp2_with (first
        | (with_reducible refine alP ?_)
        | (with_reducible refine bdP0 ?_)
        | ((with_reducible refine ldP w.heap.size ?_ HX0.out HSZ.out ?_); rfl)
        | ((with_reducible refine stPg (w.heap.size + 1) zP ?_ ?_ X1.out zP_size zP_size zP_one ?_); rfl; rfl)
        | (go_at_call 40
           refine hme.mono ?_
           rintro e w1 ⟨rfl, hb1⟩
           have K1 := Lib.hid (HW0.out.trans (hb1.mono HW0.out.size))
           have X0 := Lib.hid (HX0.out.below hb1)
           have X1 := Lib.hid (HX1.out.below hb1)
           have hg1 : w.heap.size < w1.heap.size := X0.out.lt
           have c1 : w1.cell? ⟨w.heap.size, 1 + m, none⟩ = some (.int .i64 rm) := by rw [X0.out.cell, Nat.add_comm]; exact HAT.out
           clear hb1))
      try simp only [Exit.inBlock, Exit.then]
      refine bodyPost_ret (v := .tuple #[.agg zP, .int .i64 4]) ?_ rfl ?_
      rotate_left
      · rw [HRES.out]
        exact fin2k X1.out (zP_v _) zP_far K1.out (by omega) (farK_z _ _)
      · rw [results_cell_tmp rfl]
        simp [asAddr, Result.andThen, Act.put, ldvP (X1.out.row _) zP_size]
  · have HRES : Hid (rs = (zeroP, meantP p n)) := Lib.hid (by rw [HS.out, if_neg h0])
    obtain ⟨er, her⟩ : ∃ er, er = meantP p n := ⟨_, rfl⟩
    rw [← her] at hme HRES h0
    have hne : (er != 0) = true := by rw [bne_iff_ne]; exact h0
    clear HS HMZ her
    go_enter Try.func23, Try.ntmps23
    go_wp2_with (first
      | (with_reducible refine alP ?_)
      | (with_reducible refine bdP0 ?_)
      | ((with_reducible refine ldP w.heap.size ?_ HX0.out HSZ.out ?_); rfl)
      | ((with_reducible refine stPg (w.heap.size + 1) zP ?_ ?_ X1.out zP_size zP_size zP_one ?_); rfl; rfl)
      | (go_at_call 40
         refine hme.mono ?_
         rintro e w1 ⟨rfl, hb1⟩
         have K1 := Lib.hid (HW0.out.trans (hb1.mono HW0.out.size))
         have X1 := Lib.hid (HX1.out.below hb1)
         clear hb1))
    try simp only [Exit.inBlock, Exit.then]
    refine bodyPost_ret (v := .tuple #[.agg zP, .int .i64 er]) ?_ rfl ?_
    rotate_left
    · rw [HRES.out]
      exact fin2k X1.out (zP_v _) zP_far K1.out (by omega) (farK_z _ _)
    · rw [results_cell_tmp rfl]
      simp [asAddr, Result.andThen, Act.put, ldvP (X1.out.row _) zP_size]
end Go.Proofs.Ytnbhchfpfbbngaa
