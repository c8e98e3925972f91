/- Several texts in one: Flo, Flt. -/
import Derived.Test.YtglnnplijienbaaM33
import Derived.Test.YtglnnplijienbaaM22
/- flat: what looking at memory does to a process, byte by byte. -/
namespace Go.Proofs.Ytglnnplijienbaa
open Go.ChangeShapes Go.WideShapes Go.ChangeAt Go.RowKit Go.Joins Go.Sort
set_option linter.unusedVariables false
set_option linter.unusedSimpArgs false
set_option maxRecDepth 100000
theorem Keep.bx {S : Nat → Prop} {a b : World} (h : Keep S a b) {g : Nat} {T : TypeId} {cs : Array Value} (hx : Bx a g T cs) (hs : ¬ S g) : Bx b g T cs := (h.block g hx.lt hs).trans hx
theorem Pv.keepg {w w' : World} {cs : Array Value} {p : Fp} {g : Nat} {cg : Array Value} (h : Pv w cs p) (hk : Keep (fun b => b = g) w w') (hx : Bx w g 78 cg) : Pv w' cs p :=
  h.keep fun b cur hb => hk.bx hb (bx_ne hb hx (by decide))
theorem all_set {cs : Array Value} (h : cs.all (·.oneCell') = true) (i : Nat) {u : Value} (hu : u.oneCell' = true) : (cs.setIfInBounds i u).all (·.oneCell') = true := by
  rw [Array.all_eq_true_iff_forall_mem] at h ⊢
  intro x hx
  rcases Array.mem_or_eq_of_mem_setIfInBounds hx with hx | rfl
  · exact h x hx
  · exact hu
/-- One byte is laid into a process's cells. -/
theorem Pv.byte {w : World} {cs : Array Value} {p : Fp} (h : Pv w cs p) {n i : Nat} (hn : n < 64) (hi : i < 64) (v : Int) : Pv w (cs.setIfInBounds (10 + n * 68 + i) (.int .u8 v)) { p with bt := fun n' i' => if n' = n ∧ i' = i then v else p.bt n' i' } := by
  have hs := h.size
  have hne : ∀ j, j ≠ 10 + n * 68 + i → (cs.setIfInBounds (10 + n * 68 + i) (.int .u8 v))[j]? = cs[j]? := fun j hj => Array.getElem?_setIfInBounds_ne (by omega)
  have heq : (cs.setIfInBounds (10 + n * 68 + i) (.int .u8 v))[10 + n * 68 + i]? = some (.int .u8 v) := Array.getElem?_setIfInBounds_self_of_lt (by rw [hs]; omega)
  refine ⟨by rw [Array.size_setIfInBounds]; exact hs, all_set h.one _ rfl, by rw [hne 0 (by omega)]; exact h.live, ?_, fun j v hv => ?_, fun n' i' hn' hi' => ?_, fun n' i' hn' hi' => ?_⟩
  · obtain ⟨v, h1, h2⟩ := h.rg
    exact ⟨v, by rw [hne 1 (by omega)]; exact h1, h2⟩
  · have hj : j < 8 := by
      have := (Array.getElem?_eq_some_iff.1 hv).1
      simpa [kA] using this
    rw [hne _ (by omega)]; exact h.ks j v hv
  · by_cases e : n' = n ∧ i' = i
    · obtain ⟨rfl, rfl⟩ := e
      rw [heq]; simp
    · rw [hne _ (by omega), h.bt n' i' hn' hi']
      simp [e]
  · rw [hne _ (by omega)]; exact h.tg n' i' hn' hi'
/-- One tag is laid into a process's cells. -/
theorem Pv.tag {w : World} {cs : Array Value} {p : Fp} (h : Pv w cs p) {n i : Nat} (hn : n < 64) (hi : i < 4) (v : Int) : Pv w (cs.setIfInBounds (10 + n * 68 + 64 + i) (.int .i64 v)) { p with tg := fun n' i' => if n' = n ∧ i' = i then v else p.tg n' i' } := by
  have hs := h.size
  have hne : ∀ j, j ≠ 10 + n * 68 + 64 + i → (cs.setIfInBounds (10 + n * 68 + 64 + i) (.int .i64 v))[j]? = cs[j]? := fun j hj => Array.getElem?_setIfInBounds_ne (by omega)
  have heq : (cs.setIfInBounds (10 + n * 68 + 64 + i) (.int .i64 v))[10 + n * 68 + 64 + i]? = some (.int .i64 v) := Array.getElem?_setIfInBounds_self_of_lt (by rw [hs]; omega)
  refine ⟨by rw [Array.size_setIfInBounds]; exact hs, all_set h.one _ rfl, by rw [hne 0 (by omega)]; exact h.live, ?_, fun j v hv => ?_, fun n' i' hn' hi' => ?_, fun n' i' hn' hi' => ?_⟩
  · obtain ⟨v, h1, h2⟩ := h.rg
    exact ⟨v, by rw [hne 1 (by omega)]; exact h1, h2⟩
  · have hj : j < 8 := by
      have := (Array.getElem?_eq_some_iff.1 hv).1
      simpa [kA] using this
    rw [hne _ (by omega)]; exact h.ks j v hv
  · rw [hne _ (by omega)]; exact h.bt n' i' hn' hi'
  · by_cases e : n' = n ∧ i' = i
    · obtain ⟨rfl, rfl⟩ := e
      rw [heq]; simp
    · rw [hne _ (by omega), h.tg n' i' hn' hi']
      simp [e]
/-- So much is stored. -/
def stP (p : Fp) (ad m va : Int) : Fp := { p with bt := storeF p.bt ad m va }
def tgP (p : Fp) (ad m ta : Int) : Fp := { p with tg := tagF p.tg ad m ta }
theorem Pv.st0 {w : World} {cs : Array Value} {p : Fp} (h : Pv w cs p) (ad va : Int) : Pv w cs (stP p ad 0 va) := h.congr rfl rfl rfl (fun n i _ _ => by show _ = storeF p.bt ad 0 va n i; unfold storeF; rw [if_neg (by omega)]) (fun _ _ _ _ => rfl)
theorem Pv.tg0 {w : World} {cs : Array Value} {p : Fp} (h : Pv w cs p) (ad ta : Int) : Pv w cs (tgP p ad 0 ta) := h.congr rfl rfl rfl (fun _ _ _ _ => rfl) (fun n i _ _ => by show _ = tagF p.tg ad 0 ta n i; unfold tagF; rw [if_neg (by omega)])
theorem Pv.st1 {w : World} {cs : Array Value} {p : Fp} {ad m va : Int} (h : Pv w cs (stP p ad m va)) {n i : Nat} (hn : n < 64) (hi : i < 64) (hm : 0 ≤ m) (e : ((n * 64 + i : Nat) : Int) = ad + m) : Pv w (cs.setIfInBounds (10 + n * 68 + i) (.int .u8 (va / 256 ^ m.toNat % 256))) (stP p ad (m + 1) va) :=
  (h.byte hn hi _).congr rfl rfl rfl (fun n' i' hn' hi' => by
    show (if n' = n ∧ i' = i then va / 256 ^ m.toNat % 256 else storeF p.bt ad m va n' i') = storeF p.bt ad (m + 1) va n' i'
    unfold storeF
    by_cases h1 : n' = n ∧ i' = i
    · obtain ⟨rfl, rfl⟩ := h1
      rw [if_pos ⟨rfl, rfl⟩, if_pos (by omega), show (((n' * 64 + i' : Nat) : Int) - ad) = m by omega]
    · rw [if_neg h1]
      by_cases h2 : ad ≤ (n' * 64 + i' : Nat) ∧ ((n' * 64 + i' : Nat) : Int) < ad + m
      · rw [if_pos h2, if_pos (by omega)]
      · rw [if_neg h2, if_neg (by omega)]) (fun _ _ _ _ => rfl)
theorem Pv.tg1 {w : World} {cs : Array Value} {p : Fp} {ad m ta : Int} (h : Pv w cs (tgP p ad m ta)) {n i : Nat} (hn : n < 64) (hi : i < 4) (hm : 0 ≤ m) (e : ((n * 64 + i * 16 : Nat) : Int) = ad + m) : Pv w (cs.setIfInBounds (10 + n * 68 + 64 + i) (.int .i64 ta)) (tgP p ad (m + 16) ta) :=
  (h.tag hn hi ta).congr rfl rfl rfl (fun _ _ _ _ => rfl) (fun n' i' hn' hi' => by
    show (if n' = n ∧ i' = i then ta else tagF p.tg ad m ta n' i') = tagF p.tg ad (m + 16) ta n' i'
    unfold tagF
    by_cases h1 : n' = n ∧ i' = i
    · obtain ⟨rfl, rfl⟩ := h1
      rw [if_pos ⟨rfl, rfl⟩, if_pos (by omega)]
    · rw [if_neg h1]
      by_cases h2 : ad ≤ (n' * 64 + i' * 16 : Nat) ∧ ((n' * 64 + i' * 16 : Nat) : Int) < ad + m
      · rw [if_pos h2, if_pos (by omega)]
      · by_cases h3 : ad ≤ (n' * 64 + i' * 16 : Nat) ∧ ((n' * 64 + i' * 16 : Nat) : Int) < ad + (m + 16)
        · exfalso; omega
        · rw [if_neg h2, if_neg h3])
theorem loadF_lt {b : Nat → Nat → Int} (hb : ∀ n i, 0 ≤ b n i ∧ b n i ≤ 255) (ad : Int) : ∀ k, 0 ≤ loadF b ad k ∧ loadF b ad k < 256 ^ k
  | 0 => by simp [loadF]
  | k + 1 => by
    obtain ⟨h1, h2⟩ := loadF_lt hb ad k
    have h3 := hb ((ad + k) / 64).toNat ((ad + k) % 64).toNat
    unfold loadF byteAt
    have hp : (0 : Int) < 256 ^ k := Int.pow_pos (by decide)
    generalize b ((ad + k) / 64).toNat ((ad + k) % 64).toNat = c at *
    have e : (256 : Int) ^ (k + 1) = 256 * 256 ^ k := by rw [Int.pow_succ]; exact Int.mul_comm _ _
    rw [e]
    generalize (256 : Int) ^ k = q at *
    have h4 : 0 ≤ c * q := Int.mul_nonneg h3.1 (by omega)
    have h5 : c * q ≤ 255 * q := Int.mul_le_mul_of_nonneg_right h3.2 (by omega)
    omega
end Go.Proofs.Ytglnnplijienbaa

/- flat: look. -/
namespace Go.Proofs.Ytglnnplijienbaa
open Go.ChangeShapes Go.WideShapes Go.ChangeAt Go.RowKit Go.Joins Go.Sort
set_option linter.unusedVariables false
set_option linter.unusedSimpArgs false
set_option maxRecDepth 100000
theorem infoOp : (Try.prog.info? 43).map (·.size) = some 12 := by kernel_rfl
theorem infoTc : (Try.prog.info? 114).map (·.size) = some 3 := by kernel_rfl
def opA (o : Fop) : Array Value := #[.int .i64 o.kind, .int .i64 o.proc, .int .i64 o.page, .int .i64 o.count, .int .i64 o.rights, .int .i64 o.key, .bool o.tagged, .int .i64 o.draw, .int .i64 o.addr, .int .i64 o.size, .int .i64 o.value, .int .i64 o.tag]
theorem tchs_len (e : Int) : ∀ (f : Nat) (a : Int), (tchs e f a).length ≤ f
  | 0, _ => by simp [tchs]
  | f + 1, a => by
    unfold tchs
    split
    · have := tchs_len e f (min e ((a / 64 + 1) * 64)); simp; omega
    · simp
def Fuel2 (e a : Int) (f : Nat) : Prop := e ≤ a ∨ 65 - a / 64 ≤ f
/-- The next touch. -/
theorem next_touch {ts : List Tch} {ad sz : Int} {j f m : Nat} (h0 : 0 ≤ ad) (h2 : ad + sz ≤ 4096) (hj : j < ts.length) (h : ts.drop j = tchs (ad + sz) f (ad + m)) (hf : Fuel2 (ad + sz) (ad + m) f) :
    ∃ pn ki f2 : Nat, (pn : Int) * 64 + ki = ad + m ∧ ki < 64 ∧ ts[j]? = some ⟨pn, ki, min (ad + sz) ((pn + 1) * 64) - pn * 64⟩ ∧ ts.drop (j + 1) = tchs (ad + sz) f2 (min (ad + sz) ((pn + 1) * 64)) ∧ Fuel2 (ad + sz) (min (ad + sz) ((pn + 1) * 64)) f2 := by
  rw [List.drop_eq_getElem_cons hj] at h
  cases f with
  | zero => simp [tchs] at h; omega
  | succ f =>
    unfold tchs at h
    by_cases hl : ad + m < ad + sz
    · rw [if_pos hl] at h
      injection h with h1 h3
      obtain ⟨pn, hpn⟩ : ∃ pn : Nat, (pn : Int) = (ad + m) / 64 := ⟨((ad + m) / 64).toNat, by omega⟩
      obtain ⟨ki, hki⟩ : ∃ ki : Nat, (ki : Int) = ad + m - pn * 64 := ⟨(ad + m - pn * 64).toNat, by omega⟩
      rw [← hpn] at h1 h3
      refine ⟨pn, ki, f, by omega, by omega, ?_, h3, ?_⟩
      · rw [List.getElem?_eq_getElem hj, h1, hki]
      · unfold Fuel2 at hf ⊢; omega
    · rw [if_neg hl] at h; cases h
/-- What comes of looking. -/
def GivesL (g : Nat) (r : Fp × Fan) (w : World) (e : Ending) (w' : World) : Prop := e = .returned r.2.v ∧ PvK g r.1 w w'
set_option maxHeartbeats 16000000 in
theorem lookR {w : World} {g : Nat} {cs : Array Value} {p : Fp} (hx : Bx w g 78 cs) (hp : Pv w cs p) (hok : OkP p) (o : Fop) (ho : o.fits) (hk : o.kind = 10 ∨ o.kind = 12) :
    Calls Try.prog 38 #[.pointer (some ⟨g, 0, none⟩), .agg (opA o)] w (GivesL g (lookF p o) w) := by
  have HFO := Lib.hid ho
  have hlt := hx.lt
  have HX := Lib.hid hx
  have HP := Lib.hid hp
  have HRT := Lib.hid (fun W => fright_any o ho W)
  have HFA := Lib.hid (fun (e : Int) (W : World) => fails_any e W)
  have HFU := Lib.hid (fun (e f : Int) (W : World) => faults_any e f W)
  have HSF : Hid (rightF_ o = true → lookF p o = (if (stopsF p o (touchF o.addr o.size)).1 ≠ 0 then (p, faultA (stopsF p o (touchF o.addr o.size)).1 (stopsF p o (touchF o.addr o.size)).2)
    else (p, ⟨0, loadF p.bt o.addr o.size.toNat, 0, 0⟩))) := Lib.hid (fun hr => by unfold lookF; rw [if_neg (by rw [hr]; simp), if_neg (show ¬ o.kind = 13 by omega), if_neg (show ¬ o.kind = 11 by omega), (right_facts hr).2.2.2.2.2.2 (by omega) |>.1])
  have HSN : Hid (rightF_ o = false → lookF p o = (p, failA 2)) := Lib.hid (fun h => by unfold lookF; rw [if_pos h])
  have HRF := Lib.hid (fun (h : rightF_ o = true) => right_facts h)
  have hW1 : Below w.heap.size w ((w.alloc (.cells (opA o) 43)).alloc (.cells #[.int .i64 0, .int .i64 0, .int .i64 0, .int .i64 0] 47)) := (below1 _ _).alloc (by simp) _
  have hO1 : Bx ((w.alloc (.cells (opA o) 43)).alloc (.cells #[.int .i64 0, .int .i64 0, .int .i64 0, .int .i64 0] 47)) w.heap.size 43 (opA o) := (Bx.new _ _ _).below (below1 _ _)
  have hA1 : Bx ((w.alloc (.cells (opA o) 43)).alloc (.cells #[.int .i64 0, .int .i64 0, .int .i64 0, .int .i64 0] 47)) (w.heap.size + 1) 47 #[.int .i64 0, .int .i64 0, .int .i64 0, .int .i64 0] := by
    have := Bx.new (w.alloc (.cells (opA o) 43)) 47 #[.int .i64 0, .int .i64 0, .int .i64 0, .int .i64 0]
    rwa [World.size_alloc] at this
  obtain ⟨w1, hw1⟩ : ∃ w1, w1 = ((w.alloc (.cells (opA o) 43)).alloc (.cells #[.int .i64 0, .int .i64 0, .int .i64 0, .int .i64 0] 47)) := ⟨_, rfl⟩
  have HW1 := Lib.hid hw1
  rw [← hw1] at hW1 hO1 hA1
  have K1 := Lib.hid hW1
  have O1 := Lib.hid hO1
  have A1 := Lib.hid hA1
  have HST := Lib.hid (fun (W : World) (hb : Below w.heap.size w W) (x : Tch) (h0 : 0 ≤ x.p) (h1 : x.p < 64) (h2 : 0 ≤ x.f) (h3 : x.f < x.t) (h4 : x.t ≤ 64) => stop_any (hx.below hb) (hp.below hb) o ho x h0 h1 h2 h3 h4)
  have hk13 : (o.kind == 13) = false := by rw [beq_eq_false_iff_ne]; omega
  have hk11 : (o.kind == 11) = false := by rw [beq_eq_false_iff_ne]; omega
  have FAD : -9223372036854775808 ≤ o.addr ∧ o.addr ≤ 9223372036854775807 := ho.2.2.2.2.2.2.2.1
  clear hx hp hw1 hW1 hO1 hA1 ho hk
  generalize lookF p o = rs at *
  cases hri : rightF_ o with
  | false =>
    have HR := Lib.hid (HSN.out hri)
    rw [hri] at HRT
    clear HSF HSN HRF hri
    go_enter Try.func38, Try.ntmps38
    go_wp2_with (first
      | ((with_reducible refine ldB Try.underlying43 rfl infoOp w.heap.size 0 (opA o) ?_ ?_ (HW1.out ▸ O1.out) (Sub.all _) rfl ?_); rfl; rfl)
      | (go_at_call 53
         rw [← HW1.out]
         refine (HRT.out w1).mono ?_
         rintro e w2 ⟨rfl, hb2⟩
         have K2 := Lib.hid (K1.out.trans (hb2.mono K1.out.size))
         have A2 := Lib.hid (A1.out.below hb2)
         clear hb2)
      | (go_at_call 31; refine (HFA.out 2 _).mono ?_; rintro e w9 ⟨rfl, hb9⟩; have X9 := Lib.hid (A2.out.below hb9); have K9 := Lib.hid (K2.out.trans (hb9.mono K2.out.size)); clear hb9)
      | ((with_reducible refine stB infoN (w.heap.size + 1) (nA (failA 2)) ?_ ?_ X9.out rfl rfl (nA_one _) ?_); rfl; rfl))
    try simp only [Exit.inBlock, Exit.then]
    refine bodyPost_ret (v := (failA 2).v) ?_ rfl ?_
    rotate_left
    · rw [HR.out]; exact ⟨rfl, cs, (HX.out.below K9.out).orow (by omega) _, (HP.out.below K9.out).rt (fun v h => h.row X9.out (by decide) _), (Keep.of K9.out).row (.inr (by omega)) _⟩
    · rw [results_cell1 rfl]; simp [asAddr, Result.andThen, Act.put, run_ansv (X9.out.row _)]
  | true =>
    obtain ⟨_, _, hb0, hb1, hb2, _, hb3⟩ := HRF.out hri
    have hSZ := hb3 (by rw [beq_eq_false_iff_ne] at hk13; exact hk13)
    rw [hSZ.1] at hb1 hb2
    have hb4 := hSZ.2
    have HS2 := Lib.hid (HSF.out hri)
    rw [hri] at HRT
    have HTC := Lib.hid (fun W => touches_any o.addr o.size hb0 (by omega) hb2 W)
    have HTR := Lib.hid (fun (t : Tch) (h : t ∈ touchF o.addr o.size) => tchs_all 65 (o.addr + o.size) o.addr hb0 hb2 t h)
    have HTE : Hid (touchF o.addr o.size = tchs (o.addr + o.size) 65 o.addr) := Lib.hid rfl
    have HTL : Hid ((touchF o.addr o.size).length ≤ 65) := Lib.hid (tchs_len _ _ _)
    have O0 : Hid ((opA o)[0]? = some (.int .i64 o.kind)) := Lib.hid rfl
    have O8 : Hid ((opA o)[8]? = some (.int .i64 o.addr)) := Lib.hid rfl
    have O9 : Hid ((opA o)[9]? = some (.int .i64 o.size)) := Lib.hid rfl
    have HBT := Lib.hid hok.b
    clear HSF HSN HRF hri hb3 hSZ hok
    obtain ⟨oA, hoA⟩ : ∃ oA, oA = opA o := ⟨_, rfl⟩
    have HOZ : Hid (oA.size = 12) := Lib.hid (by rw [hoA]; rfl)
    have HOV : Hid (Value.agg oA = o.v) := Lib.hid (by rw [hoA]; rfl)
    rw [← hoA] at HW1 O1 O0 O8 O9 ⊢
    clear hoA HFO
    generalize touchF o.addr o.size = ts at *
    have HST2 := Lib.hid (fun (W : World) (hb : Below w.heap.size w W) (x : Tch) (hm : x ∈ ts) => by
      have h := HTR.out x hm
      have := HST.out W hb x h.1 h.2.1 h.2.2.1 h.2.2.2.1 h.2.2.2.2.1
      rw [← HOV.out] at this
      exact this)
    have HRT2 : Hid (∀ W, Calls Try.prog 53 #[.agg oA] W fun e w' => e = .returned (.bool true) ∧ Below W.heap.size W w') := Lib.hid (fun W => by rw [HOV.out]; exact HRT.out W)
    clear HST HRT
    obtain ⟨kd, hkd⟩ : ∃ kd, kd = o.kind := ⟨_, rfl⟩
    obtain ⟨ad, had⟩ : ∃ ad, ad = o.addr := ⟨_, rfl⟩
    obtain ⟨sz, hsz⟩ : ∃ sz, sz = o.size := ⟨_, rfl⟩
    rw [← hkd] at O0 hk13 hk11
    rw [← had] at O8 FAD hb0 hb2 HTC HTR HTE HS2
    rw [← hsz] at O9 hb1 hb2 hb4 HTC HTR HTE HS2
    clear hkd had hsz
    go_enter Try.func38, Try.ntmps38
    go_wp2_with (first
      | ((with_reducible refine ldB Try.underlying43 rfl infoOp w.heap.size 0 oA ?_ ?_ (HW1.out ▸ O1.out) (Sub.all _) HOZ.out ?_); rfl; rfl)
      | (go_at_call 53
         rw [← HW1.out]
         refine (HRT2.out w1).mono ?_
         rintro e w2 ⟨rfl, hb2⟩
         have K2 := Lib.hid (K1.out.trans (hb2.mono K1.out.size))
         have A2 := Lib.hid (A1.out.below hb2)
         have O2 := Lib.hid (O1.out.below hb2)
         have c0 : w2.cell? ⟨w.heap.size, 0, none⟩ = some (.int .i64 kd) := by rw [O2.out.cell]; exact O0.out
         have c8 : w2.cell? ⟨w.heap.size, 8, none⟩ = some (.int .i64 ad) := by rw [O2.out.cell]; exact O8.out
         have c9 : w2.cell? ⟨w.heap.size, 9, none⟩ = some (.int .i64 sz) := by rw [O2.out.cell]; exact O9.out
         have cl : w.heap.size < w2.heap.size := O2.out.lt
         clear hb2)
      | (go_at_call 54
         refine (HTC.out w2).mono ?_
         rintro e w3 ⟨vt, rfl, ho3, hb3⟩
         obtain ⟨A, ct, rfl, hct1, hct2, hr3⟩ := ho3.row fT_len
         have K3 := Lib.hid (K2.out.trans (hb3.mono K2.out.size))
         have A3 := Lib.hid (A2.out.below hb3)
         have O3 := Lib.hid (O2.out.below hb3)
         have R3 := Lib.hid hr3
         clear hb3 ho3 hr3 c0 c8 c9 cl))
    have HLN := HTL.out
    go_loopw [36] (fun i wr => ∃ (k : Nat), k ≤ ts.length ∧ i = .int .i64 k ∧ Hid (Below w3.heap.size w3 wr) ∧ Hid (stopsF p o ts = stopsF p o (ts.drop k))) (fun i _ => ts.length - (intOf i).toNat)
    case atStart => exact ⟨0, by omega, rfl, Lib.hid (Below.refl _ _), Lib.hid (by rw [List.drop_zero])⟩
    case round =>
      obtain ⟨k, hk, rfl, HB, HSD⟩ := hrel
      by_cases hlt2 : k < ts.length
      · obtain ⟨x, hxk⟩ : ∃ x, ts[k]? = some x := ⟨_, List.getElem?_eq_getElem hlt2⟩
        obtain ⟨b, off, rfl, hbl⟩ := R3.out.open (by omega)
        have hcs := (R3.out.below HB.out).at_ fT_len hxk
        have xc0 : wr.cell? ⟨b, off + k * 3, none⟩ = some (.int .i64 x.p) := hcs 0 _ rfl
        have xc1 : wr.cell? ⟨b, off + k * 3 + 1, none⟩ = some (.int .i64 x.f) := hcs 1 _ rfl
        have xc2 : wr.cell? ⟨b, off + k * 3 + 2, none⟩ = some (.int .i64 x.t) := hcs 2 _ rfl
        have HC := Lib.hid (HST2.out (wr.alloc (.cells #[.int .i64 x.p, .int .i64 x.f, .int .i64 x.t] 114)) ((K3.out.trans (HB.out.mono K3.out.size)).trans ((below1 _ _).mono (Nat.le_trans K3.out.size HB.out.size))) x (List.mem_of_getElem? hxk))
        have HDR : Hid (stopsF p o (ts.drop k) = if (stopF p o x).1 ≠ 0 then stopF p o x else stopsF p o (ts.drop (k + 1))) := Lib.hid (by rw [List.drop_eq_getElem_cons hlt2, show ts[k] = x from by rw [List.getElem?_eq_getElem hlt2] at hxk; exact Option.some.inj hxk]; rfl)
        have X4 := Lib.hid ((A3.out.below HB.out).below (below1 wr (.cells #[.int .i64 x.p, .int .i64 x.f, .int .i64 x.t] 114)))
        have O4 := Lib.hid (O3.out.below HB.out)
        have K4 := Lib.hid ((K3.out.trans (HB.out.mono K3.out.size)).trans ((below1 wr (.cells #[.int .i64 x.p, .int .i64 x.f, .int .i64 x.t] 114)).mono (Nat.le_trans K3.out.size HB.out.size)))
        have hwb : b < wr.heap.size := by have := HB.out.size; omega
        clear hcs
        obtain ⟨r, hr⟩ : ∃ r, r = stopF p o x := ⟨_, rfl⟩
        rw [← hr] at HC HDR
        clear hr hxk
        obtain ⟨rf, ra⟩ := r
        simp only at HC HDR
        by_cases hz : rf = 0
        · have HS3 := Lib.hid (HSD.out.trans (HDR.out.trans (if_neg (by simp [hz]))))
          subst hz
          clear HDR HSD
          go_wp2_with (first
            | ((with_reducible refine ldB Try.underlying43 rfl infoOp w.heap.size 0 oA ?_ ?_ (O4.out.below (below1 _ _)) (Sub.all _) HOZ.out ?_); rfl; rfl)
            | (go_at_call 55
               refine HC.out.mono ?_
               rintro e w5 ⟨rfl, hb5⟩
               have HB5 := Lib.hid ((HB.out.alloc HB.out.size (.cells #[.int .i64 x.p, .int .i64 x.f, .int .i64 x.t] 114)).trans (hb5.mono (Nat.le_trans HB.out.size (by simp))))
               clear hb5))
          go_roundw
          case rel => exact ⟨k + 1, by omega, by go_num, HB5, HS3⟩
          case measure => simp [intOf]; omega
        · have HS3 := Lib.hid (HSD.out.trans (HDR.out.trans (if_pos hz)))
          have hne : (rf != 0) = true := by rw [bne_iff_ne]; exact hz
          have HR : Hid (rs = (p, faultA rf ra)) := Lib.hid (by rw [HS2.out, HS3.out]; exact if_pos hz)
          clear HDR HSD HS3
          go_wp2_with (first
            | ((with_reducible refine ldB Try.underlying43 rfl infoOp w.heap.size 0 oA ?_ ?_ (O4.out.below (below1 _ _)) (Sub.all _) HOZ.out ?_); rfl; rfl)
            | (go_at_call 55
               refine HC.out.mono ?_
               rintro e w5 ⟨rfl, hb5⟩
               have X5 := Lib.hid (X4.out.below (hb5.mono (by simp)))
               have K5 := Lib.hid (K4.out.trans (hb5.mono K4.out.size))
               clear hb5)
            | (go_at_call 56; refine (HFU.out _ _ _).mono ?_; rintro e w9 ⟨rfl, hb9⟩; have X9 := Lib.hid (X5.out.below hb9); have K9 := Lib.hid (K5.out.trans (hb9.mono K5.out.size)); clear hb9)
            | ((with_reducible refine stB infoN (w.heap.size + 1) (nA (faultA rf ra)) ?_ ?_ X9.out rfl rfl (nA_one _) ?_); rfl; rfl))
          try simp only [Exit.inBlock, Exit.then]
          refine bodyPost_ret (v := (faultA rf ra).v) ?_ rfl ?_
          rotate_left
          · rw [HR.out]; exact ⟨rfl, cs, (HX.out.below K9.out).orow (by omega) _, (HP.out.below K9.out).rt (fun v h => h.row X9.out (by decide) _), (Keep.of K9.out).row (.inr (by omega)) _⟩
          · rw [results_cell1 rfl]; simp [asAddr, Result.andThen, Act.put, run_ansv (X9.out.row _)]
      · have hkn : k = ts.length := by omega
        have HS3 : Hid (rs = (p, ⟨0, loadF p.bt ad sz.toNat, 0, 0⟩)) := Lib.hid (by rw [HS2.out, HSD.out, hkn, List.drop_length]; exact if_neg (by simp [stopsF]))
        clear HSD hkn
        obtain ⟨w4, hw4⟩ : ∃ w4, w4 = wr := ⟨_, rfl⟩
        rw [← hw4] at HB ⊢
        clear hw4
        have X4 := Lib.hid (A3.out.below HB.out)
        have O4 := Lib.hid (O3.out.below HB.out)
        have K4 := Lib.hid (K3.out.trans (HB.out.mono K3.out.size))
        have R4 := Lib.hid (R3.out.on HB.out (Nat.le_refl _))
        clear HB
        go_wp2
        go_loopw [11, 12, 55] (fun v sh i wr => ∃ (j f m : Nat), j ≤ ts.length ∧ i = .int .i64 j ∧ v = .int .i64 (loadF p.bt ad m) ∧ sh = .int .i64 (8 * m : Nat) ∧ (m : Int) ≤ sz ∧ Hid (ts.drop j = tchs (ad + sz) f (ad + m)) ∧ Hid (Fuel2 (ad + sz) (ad + m) f) ∧ Hid (Below w4.heap.size w4 wr)) (fun _ _ i _ => ts.length - (intOf i).toNat)
        case atStart => exact ⟨0, 65, 0, by omega, rfl, rfl, rfl, by omega, Lib.hid (by rw [List.drop_zero, HTE.out]; simp), Lib.hid (.inr (by omega)), Lib.hid (Below.refl _ _)⟩
        case round =>
          obtain ⟨j, f, m, hj, rfl, rfl, rfl, hm, HTD, HFU2, HB⟩ := hrel
          by_cases hlt3 : j < ts.length
          · obtain ⟨pn, ki, f2, hpk, hki, HXJ, HTD2, HFU3⟩ := next_touch hb0 hb2 hlt3 HTD.out HFU2.out
            obtain ⟨b, off, rfl, hbl⟩ := R4.out.open (by omega)
            have hcs := (R4.out.below HB.out).at_ fT_len HXJ
            obtain ⟨e1, he1⟩ : ∃ e1 : Int, e1 = min (ad + sz) ((pn + 1) * 64) := ⟨_, rfl⟩
            rw [← he1] at HTD2 HFU3 hcs
            have xc0 : wr.cell? ⟨b, off + j * 3, none⟩ = some (.int .i64 pn) := hcs 0 _ rfl
            have xc1 : wr.cell? ⟨b, off + j * 3 + 1, none⟩ = some (.int .i64 ki) := hcs 1 _ rfl
            have xc2 : wr.cell? ⟨b, off + j * 3 + 2, none⟩ = some (.int .i64 (e1 - pn * 64)) := hcs 2 _ rfl
            have hwb : b < wr.heap.size := by have := HB.out.size; omega
            have HTD3 := Lib.hid HTD2
            have HFU4 := Lib.hid HFU3
            have be1 : ad + m < e1 ∧ e1 ≤ ad + sz ∧ e1 ≤ pn * 64 + 64 := by
              have h := HFU2.out
              unfold Fuel2 at h
              have : ¬ ad + sz ≤ ad + m := fun hh => by
                have h9 := HTD.out
                rw [List.drop_eq_getElem_cons hlt3] at h9
                cases f with
                | zero => cases h9
                | succ f => unfold tchs at h9; rw [if_neg (by omega)] at h9; cases h9
              omega
            obtain ⟨be1, be2, be3⟩ := be1
            have bpn : pn < 64 := by omega
            clear hcs HTD HFU2 HXJ HTD2 HFU3 he1
            go_wp2
            have T5 := Lib.hid (Bx.new wr 114 #[.int .i64 pn, .int .i64 ki, .int .i64 (e1 - pn * 64)])
            have O5 := Lib.hid ((O4.out.below HB.out).below (below1 wr (.cells #[.int .i64 pn, .int .i64 ki, .int .i64 (e1 - pn * 64)] 114)))
            have B5 := Lib.hid (HB.out.alloc HB.out.size (.cells #[.int .i64 pn, .int .i64 ki, .int .i64 (e1 - pn * 64)] 114))
            obtain ⟨tb, htb⟩ : ∃ tb, tb = wr.heap.size := ⟨_, rfl⟩
            rw [← htb] at T5 ⊢
            obtain ⟨w5, hw5⟩ : ∃ w5, w5 = wr.alloc (.cells #[.int .i64 pn, .int .i64 ki, .int .i64 (e1 - pn * 64)] 114) := ⟨_, rfl⟩
            rw [← hw5] at T5 O5 B5 ⊢
            clear hw5 htb xc0 xc1 xc2 hwb
            have t0 : w5.cell? ⟨tb, 0, none⟩ = some (.int .i64 pn) := by rw [T5.out.cell]; rfl
            have l5 : tb < w5.heap.size := T5.out.lt
            have gc : ∀ (d : Nat) (os : Array Obj) (b o : Nat), b < w5.heap.size → (grow (redrawn w5 d) os).cell? ⟨b, o, none⟩ = w5.cell? ⟨b, o, none⟩ := fun d os b o h => (below_regrown _ d os).cell (p := ⟨b, o, none⟩) h
            refine wp_region_rel1 [] (by kernel_rfl) (by kernel_rfl) ?_
            intro V hV
            repeat (first | (refine rel_quiet rfl rfl ?_; go_big_quiet_step (fail); refine wpQuiet_nil ?_) | (refine rel_nil ⟨g, 0, none⟩ (by kernel_rfl) rfl rfl ?_; go_big_quiet_step (fail); refine wpQuiet_nil ?_))
            intro w6 hb6 hf
            clear hf hV gc t0 l5
            have T6 := Lib.hid (T5.out.below hb6)
            have O6 := Lib.hid (O5.out.below hb6)
            have B6 := Lib.hid (B5.out.trans (hb6.mono B5.out.size))
            clear hb6
            have t1 : w6.cell? ⟨tb, 1, none⟩ = some (.int .i64 ki) := by rw [T6.out.cell]; rfl
            have l6 : tb < w6.heap.size := T6.out.lt
            have lo6 : w.heap.size < w6.heap.size := O6.out.lt
            have c0 : w6.cell? ⟨w.heap.size, 0, none⟩ = some (.int .i64 kd) := by rw [O6.out.cell]; exact O0.out
            go_wp2
            clear t1 l6 lo6 c0
            go_loopw [11, 12, 17] (fun v sh kk wr => ∃ (q kj : Nat), (pn : Int) * 64 + kj = ad + q ∧ ad + q ≤ e1 ∧ v = .int .i64 (loadF p.bt ad q) ∧ sh = .int .i64 (8 * q : Nat) ∧ kk = .int .i64 kj ∧ Hid (Below w6.heap.size w6 wr)) (fun _ _ kk _ => 64 - (intOf kk).toNat)
            case atStart => exact ⟨m, ki, by omega, by omega, rfl, rfl, rfl, Lib.hid (Below.refl _ _)⟩
            case round =>
              obtain ⟨q, kj, hq1, hq2, rfl, rfl, rfl, HB7⟩ := hrel
              have T7 := Lib.hid (T6.out.below HB7.out)
              have O7 := Lib.hid (O6.out.below HB7.out)
              have t2 : wr.cell? ⟨tb, 2, none⟩ = some (.int .i64 (e1 - pn * 64)) := by rw [T7.out.cell]; rfl
              have l7 : tb < wr.heap.size := T7.out.lt
              have lo7 : w.heap.size < wr.heap.size := O7.out.lt
              have c0 : wr.cell? ⟨w.heap.size, 0, none⟩ = some (.int .i64 kd) := by rw [O7.out.cell]; exact O0.out
              have XX := Lib.hid (HX.out.below (K4.out.trans ((B6.out.mono (Nat.le_refl _)).trans (HB7.out.mono B6.out.size) |>.mono K4.out.size)))
              have l8 : g < wr.heap.size := XX.out.lt
              by_cases hlt4 : ad + q < e1
              · have hbt := HBT.out pn kj
                have cb : wr.cell? ⟨g, 10 + pn * 68 + kj, none⟩ = some (.int .u8 (p.bt pn kj)) := by rw [XX.out.cell]; exact HP.out.bt pn kj bpn (by omega)
                have hll := loadF_lt HBT.out ad q
                have HLS : Hid (loadF p.bt ad (q + 1) = loadF p.bt ad q + p.bt pn kj * 256 ^ q) := Lib.hid (by
                  show loadF p.bt ad q + byteAt p.bt (ad + q) * 256 ^ q = _
                  unfold byteAt
                  rw [show ((ad + q) / 64).toNat = pn by omega, show ((ad + q) % 64).toNat = kj by omega])
                have hgo : (kj : Int) < e1 - pn * 64 := by omega
                generalize loadF p.bt ad q = v1 at *
                generalize p.bt pn kj = by_ at *
                have hq4 : q = 0 ∨ q = 1 ∨ q = 2 ∨ q = 3 := by omega
                rcases hq4 with rfl | rfl | rfl | rfl
                · go_wp2
                  go_roundw
                  case rel =>
                    refine ⟨1, kj + 1, by omega, by omega, ?_, rfl, by go_num, HB7⟩
                    have h : loadF p.bt ad 1 = v1 + by_ := HLS.out.trans (by simp)
                    rw [h, or_join 0 v1 by_ (by omega) (by simp at hll ⊢; omega) (by omega) (by omega) (by simp at hll; omega)]
                  case measure => simp [intOf]; omega
                · go_wp2
                  go_roundw
                  case rel =>
                    refine ⟨2, kj + 1, by omega, by omega, ?_, rfl, by go_num, HB7⟩
                    have h : loadF p.bt ad 2 = v1 + (by_ * 256) := HLS.out
                    rw [h, or_join 8 v1 (by_ * 256) (by omega) (by simp at hll ⊢; omega) (by omega) (by omega) (by simp at hll; omega)]
                  case measure => simp [intOf]; omega
                · go_wp2
                  go_roundw
                  case rel =>
                    refine ⟨3, kj + 1, by omega, by omega, ?_, rfl, by go_num, HB7⟩
                    have h : loadF p.bt ad 3 = v1 + (by_ * 65536) := HLS.out
                    rw [h, or_join 16 v1 (by_ * 65536) (by omega) (by simp at hll ⊢; omega) (by omega) (by omega) (by simp at hll; omega)]
                  case measure => simp [intOf]; omega
                · go_wp2
                  go_roundw
                  case rel =>
                    refine ⟨4, kj + 1, by omega, by omega, ?_, rfl, by go_num, HB7⟩
                    have h : loadF p.bt ad 4 = v1 + (by_ * 16777216) := HLS.out
                    rw [h, or_join 24 v1 (by_ * 16777216) (by omega) (by simp at hll ⊢; omega) (by omega) (by omega) (by simp at hll; omega)]
                  case measure => simp [intOf]; omega
              · have hqe : ad + q = e1 := by omega
                have hgo : e1 - pn * 64 ≤ (kj : Int) := by omega
                have HTD5 : Hid (ts.drop (j + 1) = tchs (ad + sz) f2 (ad + q)) := Lib.hid (by rw [hqe]; exact HTD3.out)
                have HFU5 : Hid (Fuel2 (ad + sz) (ad + q) f2) := Lib.hid (by rw [hqe]; exact HFU4.out)
                have hq9 : (q : Int) ≤ sz := by omega
                have HB9 : Hid (Below w4.heap.size w4 wr) := Lib.hid (B6.out.trans (HB7.out.mono B6.out.size))
                clear hqe HTD3 HFU4
                go_wp2
                go_roundw
                case rel => exact ⟨j + 1, f2, q, by omega, by go_num, rfl, rfl, hq9, HTD5, HFU5, HB9⟩
                case measure => simp [intOf]; omega
          · have hjn : j = ts.length := by omega
            have hms : (m : Int) = sz := by
              have h := HTD.out
              rw [hjn, List.drop_length] at h
              have h2 := HFU2.out
              unfold Fuel2 at h2
              by_cases hl : ad + m < ad + sz
              · cases f with
                | zero => omega
                | succ f => unfold tchs at h; rw [if_pos hl] at h; cases h
              · omega
            have HR : Hid (rs = (p, ⟨0, loadF p.bt ad m, 0, 0⟩)) := Lib.hid (by rw [HS3.out, show sz.toNat = m by omega])
            have X9 := Lib.hid (X4.out.below HB.out)
            have K9 := Lib.hid (K4.out.trans (HB.out.mono K4.out.size))
            clear HTD HFU2 HB hjn hms HS3
            generalize loadF p.bt ad m = vv at *
            go_wp2_with (((with_reducible refine stB infoN (w.heap.size + 1) (nA ⟨0, vv, 0, 0⟩) ?_ ?_ X9.out rfl rfl (nA_one _) ?_); rfl; rfl))
            try simp only [Exit.inBlock, Exit.then]
            refine bodyPost_ret (v := (Fan.mk 0 vv 0 0).v) ?_ rfl ?_
            rotate_left
            · rw [HR.out]; exact ⟨rfl, cs, (HX.out.below K9.out).orow (by omega) _, (HP.out.below K9.out).rt (fun v h => h.row X9.out (by decide) _), (Keep.of K9.out).row (.inr (by omega)) _⟩
            · rw [results_cell1 rfl]; simp [asAddr, Result.andThen, Act.put, run_ansv (X9.out.row _)]
end Go.Proofs.Ytglnnplijienbaa
