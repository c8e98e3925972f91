/- Several texts in one: Flx, Fly, Flz, Fma. -/
import Derived.Test.YtglnnplijienbaaM35
import Derived.Test.YtglnnplijienbaaM23
/- flat: fork. -/
namespace Go.Proofs.Ytglnnplijienbaa
open Go.ChangeShapes Go.WideShapes Go.ChangeAt Go.RowKit Go.Joins Go.Sort
set_option linter.unusedVariables false
set_option linter.unusedSimpArgs false
set_option maxRecDepth 100000
theorem setCell_alloc_comm (w : World) (g i : Nat) (v : Value) (o : Obj) (h : g < w.heap.size) : (w.setCell ⟨g, i, none⟩ v).alloc o = (w.alloc o).setCell ⟨g, i, none⟩ v := (World.setCell_alloc_past o g i v h).symm
/-- The blocks of a world. -/
def Own4 (gw : Nat) (gs : Nat → Nat) (b : Nat) : Prop := b = gw ∨ ∃ k, k < 4 ∧ b = gs k
/-- A world in memory, of which only its own blocks may have changed. -/
def WsK (gw : Nat) (gs : Nat → Nat) (W : Fw) (w w' : World) : Prop := ∃ gs', Ws w' gw gs' W ∧ Keep (Own4 gw gs) w w' ∧ ∀ k, k < 4 → gs' k = gs k ∨ w.heap.size ≤ gs' k
theorem WsK.of {w w' : World} {gw : Nat} {gs : Nat → Nat} {W : Fw} (h : Ws w gw gs W) (hb : Below w.heap.size w w') : WsK gw gs W w w' := ⟨gs, h.below hb, Keep.of hb, fun _ _ => .inl rfl⟩
theorem WsK.more {a b c : World} {gw : Nat} {gs : Nat → Nat} {W : Fw} (h : WsK gw gs W a b) (hb : Below b.heap.size b c) : WsK gw gs W a c := by
  obtain ⟨gs', h1, h2, h3⟩ := h
  exact ⟨gs', h1.below hb, h2.more hb, h3⟩
theorem Ws.ne {w : World} {gw : Nat} {gs : Nat → Nat} {W : Fw} (h : Ws w gw gs W) {k : Nat} (hk : k < 4) : ¬ gw = gs k := by
  obtain ⟨cs, h1, _⟩ := h.each k hk
  exact bx_ne h.top h1 (by decide)
/-- A block of another type is stored into. -/
theorem Ws.row {w : World} {gw : Nat} {gs : Nat → Nat} {W : Fw} (h : Ws w gw gs W) {g : Nat} {T : TypeId} {z : Array Value} (hx : Bx w g T z) (h1 : 71 ≠ T) (h2 : 78 ≠ T) (h3 : 40 ≠ T) (cs : Array Value) : Ws (w.setRow g cs) gw gs W :=
  ⟨h.top.orow (bx_ne h.top hx h1) cs, fun k hk => by
    obtain ⟨c, e1, e2⟩ := h.each k hk
    exact ⟨c, e1.orow (bx_ne e1 hx h2) cs, e2.rt fun v hr => hr.row hx h3 cs⟩, h.inj⟩
theorem WsK.row {a w : World} {gw : Nat} {gs : Nat → Nat} {W : Fw} (h : WsK gw gs W a w) {g : Nat} {T : TypeId} {z : Array Value} (hx : Bx w g T z) (hg : a.heap.size ≤ g) (h1 : 71 ≠ T) (h2 : 78 ≠ T) (h3 : 40 ≠ T) (cs : Array Value) : WsK gw gs W a (w.setRow g cs) := by
  obtain ⟨gs', e1, e2, e3⟩ := h
  exact ⟨gs', e1.row hx h1 h2 h3 cs, e2.row (.inr hg) cs, e3⟩
/-- The pointers of a world. -/
def ptrs (gs : Nat → Nat) : Array Value := #[.pointer (some ⟨gs 0, 0, none⟩), .pointer (some ⟨gs 1, 0, none⟩), .pointer (some ⟨gs 2, 0, none⟩), .pointer (some ⟨gs 3, 0, none⟩)]
def updG (gs : Nat → Nat) (k b : Nat) : Nat → Nat := fun i => if i = k then b else gs i
theorem ptrs_upd (gs : Nat → Nat) {k : Nat} (hk : k < 4) (b : Nat) : (ptrs gs).setIfInBounds k (.pointer (some ⟨b, 0, none⟩)) = ptrs (updG gs k b) := by
  have : k = 0 ∨ k = 1 ∨ k = 2 ∨ k = 3 := by omega
  rcases this with rfl | rfl | rfl | rfl <;> rfl
/-- A process gets a block of its own. -/
theorem Ws.put {w : World} {gw : Nat} {gs : Nat → Nat} {W : Fw} (h : Ws w gw gs W) {k : Nat} (hk : k < 4) {b : Nat} {cs : Array Value} {p : Fp} (hx : Bx w b 78 cs) (hp : Pv w cs p) (hn : ∀ j, j < 4 → gs j ≠ b) :
    Ws (w.setCell ⟨gw, k, none⟩ (.pointer (some ⟨b, 0, none⟩))) gw (updG gs k b) (updW W k p) := by
  refine ⟨?_, fun j hj => ?_, fun i j hi hj e => ?_⟩
  · have := h.top.set k (.pointer (some ⟨b, 0, none⟩))
    rw [show (#[Value.pointer (some ⟨gs 0, 0, none⟩), .pointer (some ⟨gs 1, 0, none⟩), .pointer (some ⟨gs 2, 0, none⟩), .pointer (some ⟨gs 3, 0, none⟩)] : Array Value) = ptrs gs from rfl, ptrs_upd gs hk b] at this
    exact this
  · by_cases e : j = k
    · subst e
      rw [updW_at, show updG gs j b j = b from if_pos rfl]
      exact ⟨cs, hx.other (bx_ne hx h.top (by decide)) _ _, hp.rt fun v hr => hr.cell h.top (by decide) _ _⟩
    · rw [updW_ne _ _ e, show updG gs k b j = gs j from if_neg e]
      obtain ⟨c, e1, e2⟩ := h.each j hj
      exact ⟨c, e1.other (bx_ne e1 h.top (by decide)) _ _, e2.rt fun v hr => hr.cell h.top (by decide) _ _⟩
  · unfold updG at e
    by_cases e1 : i = k
    · by_cases e2 : j = k
      · omega
      · rw [if_pos e1, if_neg e2] at e; exact absurd e.symm (hn j hj)
    · by_cases e2 : j = k
      · rw [if_neg e1, if_pos e2] at e; exact absurd e (hn i hi)
      · rw [if_neg e1, if_neg e2] at e; exact h.inj i j hi hj e
def GivesW (gw : Nat) (gs : Nat → Nat) (r : Fw × Fan) (w : World) (e : Ending) (w' : World) : Prop := e = .returned r.2.v ∧ WsK gw gs r.1 w w'
set_option maxHeartbeats 16000000 in
theorem fork_any {w : World} {gw : Nat} {gs : Nat → Nat} {W : Fw} (h : Ws w gw gs W) (hok : OkW W) {k : Nat} (hk : k < 4) :
    Calls Try.prog 37 #[.pointer (some ⟨gw, 0, none⟩), .pointer (some ⟨gs k, 0, none⟩)] w (GivesW gw gs (forkF W (W k)) w) := by
  have hgw := h.top.lt
  obtain ⟨cs, hxk, hpk⟩ := h.each k hk
  obtain ⟨v, hv, hr⟩ := hpk.rg
  have hlt := hxk.lt
  have HCH := Lib.hid (fun W' (hb : Below w.heap.size w W') => child_any (h.below hb))
  have HMP := Lib.hid (fun W' (hb : Below w.heap.size w W') => mapped_any (h.below hb) (fun k _ => (hok.p k).r))
  have HCT := Lib.hid (fun W' (hb : Below w.heap.size w W') => count_rt (hr.below hb) (hok.p k).r)
  have HFA := Lib.hid (fun (e : Int) (W : World) => fails_any e W)
  have HWS := Lib.hid h
  have HX := Lib.hid hxk
  have HP := Lib.hid hpk
  have HV := Lib.hid hv
  have hm0 : 0 ≤ mappedF W ∧ mappedF W ≤ 64 := by
    have h0 := tot_nonneg (hok.p 0).r
    have h1 := tot_nonneg (hok.p 1).r
    have h2 := tot_nonneg (hok.p 2).r
    have h3 := tot_nonneg (hok.p 3).r
    have := hok.sum
    unfold mappedF at this ⊢
    omega
  have ht0 := tot_range (hok.p k).r
  have HF : Hid (forkF W (W k) = if childF W = 4 ∨ 64 < mappedF W + tot (W k).rg then (W, failA 4) else (updW W (childF W) (W k), ⟨0, (childF W : Int), 0, 0⟩)) := Lib.hid rfl
  have hci := childI_is W
  have hc4 : childF W ≤ 4 := by unfold childF; split <;> (try split) <;> (try split) <;> (try split) <;> omega
  rw [hci] at HCH
  clear h hxk hpk hr hv hok hci
  generalize forkF W (W k) = rs at *
  generalize tot (W k).rg = tk at *
  generalize mappedF W = mp at *
  generalize childF W = ch at *
  generalize hgk : gs k = gk at *
  have HGK := Lib.hid hgk
  clear hgk
  have hW1 := below1 w (.cells #[.int .i64 0, .int .i64 0, .int .i64 0, .int .i64 0] 47)
  have hA1 := Bx.new w 47 #[.int .i64 0, .int .i64 0, .int .i64 0, .int .i64 0]
  obtain ⟨w1, hw1⟩ : ∃ w1, w1 = w.alloc (.cells #[.int .i64 0, .int .i64 0, .int .i64 0, .int .i64 0] 47) := ⟨_, rfl⟩
  have HW1 := Lib.hid hw1
  rw [← hw1] at hW1 hA1
  have K1 := Lib.hid hW1
  have A1 := Lib.hid hA1
  clear hw1 hW1 hA1
  by_cases hc : ch = 4
  · have HR : Hid (rs = (W, failA 4)) := Lib.hid (by rw [HF.out, if_pos (.inl hc)])
    rw [if_pos hc] at HCH
    clear HF hc
    go_enter Try.func37, Try.ntmps37
    go_wp2_with (go_at_call 52; rw [← HW1.out]; refine (HCH.out w1 K1.out).mono ?_; rintro e w2 ⟨rfl, rfl⟩)
    refine wp_rel [] (by kernel_rfl) (by kernel_rfl) ?_
    intro V hV
    iterate 3 (refine rq rfl rfl ?_; go_big_quiet_step (fail); refine wpQuiet_nil ?_)
    iterate 9 (refine rk (by kernel_rfl) ?_; go_big_quiet_step (fail); refine wpQuiet_nil ?_)
    refine rq rfl rfl ?_
    go_big_quiet_step (fail)
    refine wpQuiet_nil (rend ?_)
    intro w3 hb3 hf
    clear hf hV
    have A3 := Lib.hid (A1.out.below hb3)
    have K3 := Lib.hid (K1.out.trans (hb3.mono K1.out.size))
    clear hb3
    go_wp2_with (first
      | (go_at_call 31; refine (HFA.out 4 _).mono ?_; rintro e w9 ⟨rfl, hb9⟩; have X9 := Lib.hid (A3.out.below hb9); have K9 := Lib.hid (K3.out.trans (hb9.mono K3.out.size)); clear hb9)
      | ((with_reducible refine stB infoN w.heap.size (nA (failA 4)) ?_ ?_ X9.out rfl rfl (nA_one _) ?_); rfl; rfl))
    try simp only [Exit.inBlock, Exit.then]
    refine bodyPost_ret (v := (failA 4).v) ?_ rfl ?_
    rotate_left
    · rw [HR.out]; exact ⟨rfl, (WsK.of HWS.out K9.out).row X9.out (Nat.le_refl _) (by decide) (by decide) (by decide) _⟩
    · rw [results_cell1 rfl]; simp [asAddr, Result.andThen, Act.put, run_ansv (X9.out.row _)]
  · have hc4' : ch < 4 := by omega
    rw [if_neg hc] at HCH
    have hz : (ch : Int) ≥ 0 := by omega
    have gs_ := fun (d : Nat) => d
    have REG : ∀ (b : Bool), b = decide (64 < mp + tk) → rs = (if b = true then (W, failA 4) else (updW W ch (W k), ⟨0, (ch : Int), 0, 0⟩)) := fun b hb => by
      rw [HF.out, hb]
      by_cases h6 : 64 < mp + tk
      · rw [if_pos (.inr h6), if_pos (by simpa using h6)]
      · rw [if_neg (by omega), if_neg (by simpa using h6)]
    have HREG := Lib.hid REG
    clear HF REG gs_
    by_cases h6 : 64 < mp + tk
    · have HR := Lib.hid ((HREG.out true (by simp [h6])).trans (if_pos rfl))
      have hd6 : decide (64 < mp + tk) = true := decide_eq_true h6
      clear HREG
      go_enter Try.func37, Try.ntmps37
      go_wp2_with (go_at_call 52; rw [← HW1.out]; refine (HCH.out w1 K1.out).mono ?_; rintro e w2 ⟨rfl, rfl⟩)
      have hn : decide ((ch : Int) < 0) = false := decide_eq_false (by omega)
      have cv : w2.cell? ⟨gk, 1, none⟩ = some v := by rw [(HX.out.below K1.out).cell]; exact HV.out
      have l1 : gk < w2.heap.size := (HX.out.below K1.out).lt
      have gc : ∀ (d : Nat) (os : Array Obj) (b o : Nat), b < w2.heap.size → (grow (redrawn w2 d) os).cell? ⟨b, o, none⟩ = w2.cell? ⟨b, o, none⟩ := fun d os b o h => (below_regrown _ d os).cell (p := ⟨b, o, none⟩) h
      refine wp_rel [Sp.call 4 (.int .i64 mp), Sp.call 9 (.int .i64 tk)] (by kernel_rfl) (by kernel_rfl) ?_
      intro V hV
      have e4 : V 4 = .int .i64 mp := hV 4
      have e9 : V 9 = .int .i64 tk := hV 9
      have hw9 : IntKind.i64.wrap (mp + tk) = mp + tk := by rw [IntKind.wrap_i64]; omega
      iterate 4 (refine rq rfl rfl ?_; go_big_quiet_step (fail); refine wpQuiet_nil ?_)
      refine rsp (Sp.call 4 _) (by kernel_rfl) rfl (fun w' hb hf => ?_) ?_
      · refine becomes_known (f := 33) (args := #[.pointer (some ⟨gw, 0, none⟩)]) ?_ (HMP.out w' (K1.out.trans (hb.mono K1.out.size)))
        go_simp
      go_big_quiet_step (fail)
      refine wpQuiet_nil ?_
      simp only [e4]
      refine rq rfl rfl ?_
      go_big_quiet_step (fail)
      refine wpQuiet_nil ?_
      refine rn ⟨gk, 0, none⟩ (by kernel_rfl) rfl rfl ?_
      go_big_quiet_step (fail)
      refine wpQuiet_nil ?_
      iterate 2 (refine rq rfl rfl ?_; go_big_quiet_step (fail); refine wpQuiet_nil ?_)
      refine rsp (Sp.call 9 _) (by kernel_rfl) rfl (fun w' hb hf => ?_) ?_
      · refine becomes_known (f := 11) (args := #[v]) ?_ (HCT.out w' (K1.out.trans (hb.mono K1.out.size)))
        go_simp
      go_big_quiet_step (fail)
      refine wpQuiet_nil ?_
      simp only [e9]
      iterate 3 (refine rq rfl rfl ?_; go_big_quiet_step (fail); refine wpQuiet_nil ?_)
      refine rend ?_
      intro w3 hb3 hf
      clear hf hV gc cv l1
      have A3 := Lib.hid (A1.out.below hb3)
      have K3 := Lib.hid (K1.out.trans (hb3.mono K1.out.size))
      clear hb3
      go_wp2_with (first
        | (go_at_call 31; refine (HFA.out 4 _).mono ?_; rintro e w9 ⟨rfl, hb9⟩; have X9 := Lib.hid (A3.out.below hb9); have K9 := Lib.hid (K3.out.trans (hb9.mono K3.out.size)); clear hb9)
        | ((with_reducible refine stB infoN w.heap.size (nA (failA 4)) ?_ ?_ X9.out rfl rfl (nA_one _) ?_); rfl; rfl))
      try simp only [Exit.inBlock, Exit.then]
      refine bodyPost_ret (v := (failA 4).v) ?_ rfl ?_
      rotate_left
      · rw [HR.out]; exact ⟨rfl, (WsK.of HWS.out K9.out).row X9.out (Nat.le_refl _) (by decide) (by decide) (by decide) _⟩
      · rw [results_cell1 rfl]; simp [asAddr, Result.andThen, Act.put, run_ansv (X9.out.row _)]
    · have HR := Lib.hid ((HREG.out false (by simp [h6])).trans (if_neg (by simp)))
      have hd6 : decide (64 < mp + tk) = false := decide_eq_false h6
      clear HREG
      go_enter Try.func37, Try.ntmps37
      go_wp2_with (go_at_call 52; rw [← HW1.out]; refine (HCH.out w1 K1.out).mono ?_; rintro e w2 ⟨rfl, rfl⟩)
      have hn : decide ((ch : Int) < 0) = false := decide_eq_false (by omega)
      have cv : w2.cell? ⟨gk, 1, none⟩ = some v := by rw [(HX.out.below K1.out).cell]; exact HV.out
      have l1 : gk < w2.heap.size := (HX.out.below K1.out).lt
      have gc : ∀ (d : Nat) (os : Array Obj) (b o : Nat), b < w2.heap.size → (grow (redrawn w2 d) os).cell? ⟨b, o, none⟩ = w2.cell? ⟨b, o, none⟩ := fun d os b o h => (below_regrown _ d os).cell (p := ⟨b, o, none⟩) h
      refine wp_rel [Sp.call 4 (.int .i64 mp), Sp.call 9 (.int .i64 tk)] (by kernel_rfl) (by kernel_rfl) ?_
      intro V hV
      have e4 : V 4 = .int .i64 mp := hV 4
      have e9 : V 9 = .int .i64 tk := hV 9
      have hw9 : IntKind.i64.wrap (mp + tk) = mp + tk := by rw [IntKind.wrap_i64]; omega
      iterate 4 (refine rq rfl rfl ?_; go_big_quiet_step (fail); refine wpQuiet_nil ?_)
      refine rsp (Sp.call 4 _) (by kernel_rfl) rfl (fun w' hb hf => ?_) ?_
      · refine becomes_known (f := 33) (args := #[.pointer (some ⟨gw, 0, none⟩)]) ?_ (HMP.out w' (K1.out.trans (hb.mono K1.out.size)))
        go_simp
      go_big_quiet_step (fail)
      refine wpQuiet_nil ?_
      simp only [e4]
      refine rq rfl rfl ?_
      go_big_quiet_step (fail)
      refine wpQuiet_nil ?_
      refine rn ⟨gk, 0, none⟩ (by kernel_rfl) rfl rfl ?_
      go_big_quiet_step (fail)
      refine wpQuiet_nil ?_
      iterate 2 (refine rq rfl rfl ?_; go_big_quiet_step (fail); refine wpQuiet_nil ?_)
      refine rsp (Sp.call 9 _) (by kernel_rfl) rfl (fun w' hb hf => ?_) ?_
      · refine becomes_known (f := 11) (args := #[v]) ?_ (HCT.out w' (K1.out.trans (hb.mono K1.out.size)))
        go_simp
      go_big_quiet_step (fail)
      refine wpQuiet_nil ?_
      simp only [e9]
      iterate 3 (refine rq rfl rfl ?_; go_big_quiet_step (fail); refine wpQuiet_nil ?_)
      refine rend ?_
      intro w3 hb3 hf
      clear hf hV gc cv l1
      have A3 := Lib.hid (A1.out.below hb3)
      have K3 := Lib.hid (K1.out.trans (hb3.mono K1.out.size))
      clear hb3
      have X3 := Lib.hid (HX.out.below K3.out)
      have P3 := Lib.hid (HP.out.below K3.out)
      have W3 := Lib.hid (HWS.out.below K3.out)
      have hsz := P3.out.size
      have HSZ := Lib.hid hsz
      have H1 := Lib.hid P3.out.one
      have hb4 := below1 w3 (.cells cs 78)
      have N4 := Lib.hid (Bx.new w3 78 cs)
      have A4 := Lib.hid (A3.out.below hb4)
      have P4 := Lib.hid (P3.out.below hb4)
      have W4 := Lib.hid (W3.out.below hb4)
      have K4 := Lib.hid (K3.out.trans (hb4.mono K3.out.size))
      have HGS : Hid (∀ j, j < 4 → gs j ≠ w3.heap.size) := Lib.hid (fun j hj => by
        obtain ⟨c, h1, _⟩ := W3.out.each j hj
        exact Nat.ne_of_lt h1.lt)
      clear hsz hb4
      have cw : w3.cell? ⟨gw, ch, none⟩ = some (.pointer (some ⟨gs ch, 0, none⟩)) := by
        rw [W3.out.top.cell]
        have : ch = 0 ∨ ch = 1 ∨ ch = 2 ∨ ch = 3 := by omega
        rcases this with rfl | rfl | rfl | rfl <;> rfl
      have fw : w3.frozen? ⟨gw, ch, none⟩ = false := W3.out.top.free _
      have lw : gw < w3.heap.size := W3.out.top.lt
      have HWP : Hid (Ws ((w3.setCell ⟨gw, ch, none⟩ (.pointer (some ⟨w3.heap.size, 0, none⟩))).alloc (.cells cs 78)) gw (updG gs ch w3.heap.size) (updW W ch (W k))) := Lib.hid (by
        rw [setCell_alloc_comm _ _ _ _ _ lw]
        exact W4.out.put hc4' N4.out P4.out HGS.out)
      have A5 : Hid (Bx ((w3.setCell ⟨gw, ch, none⟩ (.pointer (some ⟨w3.heap.size, 0, none⟩))).alloc (.cells cs 78)) w.heap.size 47 #[.int .i64 0, .int .i64 0, .int .i64 0, .int .i64 0]) := Lib.hid (by
        rw [setCell_alloc_comm _ _ _ _ _ lw]
        exact A4.out.other (by omega) _ _)
      have K5 : Hid (Keep (Own4 gw gs) w ((w3.setCell ⟨gw, ch, none⟩ (.pointer (some ⟨w3.heap.size, 0, none⟩))).alloc (.cells cs 78))) := Lib.hid (by
        rw [setCell_alloc_comm _ _ _ _ _ lw]
        exact (Keep.of K4.out).cell (.inl (.inl rfl)) _ _)
      have L5 : Hid (w.heap.size ≤ w3.heap.size) := Lib.hid K3.out.size
      go_wp2_with (first
        | ((with_reducible refine ldB Try.underlying78 rfl infoPr gk 0 cs ?_ ?_ X3.out (Sub.all _) HSZ.out ?_); rfl; rfl)
        | ((with_reducible refine stN infoPr cs ?_ ?_ zP_size HSZ.out H1.out ?_); rfl; rfl)
        | ((with_reducible refine stB infoN w.heap.size (nA ⟨0, (ch : Int), 0, 0⟩) ?_ ?_ A5.out rfl rfl (nA_one _) ?_); rfl; rfl))
      try simp only [Exit.inBlock, Exit.then]
      refine bodyPost_ret (v := (Fan.mk 0 (ch : Int) 0 0).v) ?_ rfl ?_
      rotate_left
      · rw [HR.out]
        refine ⟨rfl, _, HWP.out.row A5.out (by decide) (by decide) (by decide) _, K5.out.row (.inr (Nat.le_refl _)) _, fun j hj => ?_⟩
        unfold updG
        split
        · exact .inr L5.out
        · exact .inl rfl
      · rw [results_cell1 rfl]; simp [asAddr, Result.andThen, Act.put, run_ansv (A5.out.row _)]
end Go.Proofs.Ytglnnplijienbaa

/- flat: Do, what is wrong. -/
namespace Go.Proofs.Ytglnnplijienbaa
open Go.ChangeShapes Go.WideShapes Go.ChangeAt Go.RowKit Go.Joins Go.Sort
set_option linter.unusedVariables false
set_option linter.unusedSimpArgs false
set_option maxRecDepth 100000
theorem Keep.bxT {gw : Nat} {gs : Nat → Nat} {W : Fw} {a b w : World} (h : Keep (Own4 gw gs) a b) (hw : Ws a gw gs W) {g : Nat} {T : TypeId} {z : Array Value} (hx : Bx a g T z) (h1 : T ≠ 71) (h2 : T ≠ 78) : Bx b g T z := h.bx hx (by
  rintro (rfl | ⟨k, hk, rfl⟩)
  · exact bx_ne hx hw.top h1 rfl
  · obtain ⟨c, hc, _⟩ := hw.each k hk
    exact bx_ne hx hc h2 rfl)
theorem WsK.trans {gw : Nat} {gs : Nat → Nat} {W : Fw} {a b c : World} (h : Below a.heap.size a b) (h2 : WsK gw gs W b c) : WsK gw gs W a c := by
  obtain ⟨gs', e1, e2, e3⟩ := h2
  exact ⟨gs', e1, (Keep.of h).trans e2 (fun _ _ h => h), fun k hk => (e3 k hk).imp id fun hh => Nat.le_trans h.size hh⟩
theorem Ws.at_ {w : World} {gw : Nat} {gs : Nat → Nat} {W : Fw} (h : Ws w gw gs W) {k : Nat} (hk : k < 4) : w.cell? ⟨gw, k, none⟩ = some (.pointer (some ⟨gs k, 0, none⟩)) := by
  rw [h.top.cell]
  have : k = 0 ∨ k = 1 ∨ k = 2 ∨ k = 3 := by omega
  rcases this with rfl | rfl | rfl | rfl <;> rfl
theorem fan_v (a : Fan) : a.v = .agg (nA a) := rfl
set_option maxHeartbeats 16000000 in
theorem do_kind {w : World} {gw : Nat} {gs : Nat → Nat} {W : Fw} (h : Ws w gw gs W) (hok : OkW W) (o : Fop) (ho : o.fits) (hk : o.kind < 1 ∨ 14 < o.kind) :
    Calls Try.prog 22 #[.pointer (some ⟨gw, 0, none⟩), .agg (opA o)] w (GivesW gw gs (doF W o) w) := by
  have HFA := Lib.hid (fun (e : Int) (W : World) => fails_any e W)
  have HWS := Lib.hid h
  have hgw := h.top.lt
  have HR : Hid (doF W o = (W, failA 5)) := Lib.hid (by unfold doF; rw [if_pos hk])
  have hW1 : Below w.heap.size w ((w.alloc (.cells (opA o) 43)).alloc (.cells #[.int .i64 0, .int .i64 0, .int .i64 0, .int .i64 0] 47)) := (below1 _ _).alloc (by simp) _
  have hO1 : Bx ((w.alloc (.cells (opA o) 43)).alloc (.cells #[.int .i64 0, .int .i64 0, .int .i64 0, .int .i64 0] 47)) w.heap.size 43 (opA o) := (Bx.new _ _ _).below (below1 _ _)
  have hA1 : Bx ((w.alloc (.cells (opA o) 43)).alloc (.cells #[.int .i64 0, .int .i64 0, .int .i64 0, .int .i64 0] 47)) (w.heap.size + 1) 47 #[.int .i64 0, .int .i64 0, .int .i64 0, .int .i64 0] := by
    have := Bx.new (w.alloc (.cells (opA o) 43)) 47 #[.int .i64 0, .int .i64 0, .int .i64 0, .int .i64 0]
    rwa [World.size_alloc] at this
  obtain ⟨w1, hw1⟩ : ∃ w1, w1 = ((w.alloc (.cells (opA o) 43)).alloc (.cells #[.int .i64 0, .int .i64 0, .int .i64 0, .int .i64 0] 47)) := ⟨_, rfl⟩
  have HW1 := Lib.hid hw1
  rw [← hw1] at hW1 hO1 hA1
  have K1 := Lib.hid hW1
  have O1 := Lib.hid hO1
  have A1 := Lib.hid hA1
  have c0 : ((w.alloc (.cells (opA o) 43)).alloc (.cells #[.int .i64 0, .int .i64 0, .int .i64 0, .int .i64 0] 47)).cell? ⟨w.heap.size, 0, none⟩ = some (.int .i64 o.kind) := by rw [← hw1, O1.out.cell]; rfl
  clear h hw1 hW1 hO1 hA1
  generalize doF W o = rs at *
  obtain ⟨kd, hkd⟩ : ∃ kd, kd = o.kind := ⟨_, rfl⟩
  rw [← hkd] at c0 hk
  clear hkd
  obtain ⟨oA, hoA⟩ : ∃ oA, oA = opA o := ⟨_, rfl⟩
  rw [← hoA] at HW1 O1 c0 ⊢
  clear hoA ho
  rcases hk with hk | hk
  · have hd : decide (kd < 1) = true := decide_eq_true hk
    go_enter Try.func22, Try.ntmps22
    go_wp2_with (first
      | (go_at_call 31; rw [← HW1.out]; refine (HFA.out 5 _).mono ?_; rintro e w9 ⟨rfl, hb9⟩; have X9 := Lib.hid (A1.out.below hb9); have K9 := Lib.hid (K1.out.trans (hb9.mono K1.out.size)); clear hb9)
      | ((with_reducible refine stB infoN (w.heap.size + 1) (nA (failA 5)) ?_ ?_ X9.out rfl rfl (nA_one _) ?_); rfl; rfl))
    try simp only [Exit.inBlock, Exit.then]
    refine bodyPost_ret (v := (failA 5 : Fan).v) ?_ rfl ?_
    rotate_left
    · rw [HR.out]; exact ⟨rfl, (WsK.of HWS.out K9.out).row X9.out (by omega) (by decide) (by decide) (by decide) _⟩
    · rw [results_cell1 rfl]; simp [asAddr, Result.andThen, Act.put, run_ansv (X9.out.row _)]
  · have hd : decide (kd < 1) = false := decide_eq_false (by omega)
    go_enter Try.func22, Try.ntmps22
    go_wp2_with (first
      | (go_at_call 31; rw [← HW1.out]; refine (HFA.out 5 _).mono ?_; rintro e w9 ⟨rfl, hb9⟩; have X9 := Lib.hid (A1.out.below hb9); have K9 := Lib.hid (K1.out.trans (hb9.mono K1.out.size)); clear hb9)
      | ((with_reducible refine stB infoN (w.heap.size + 1) (nA (failA 5)) ?_ ?_ X9.out rfl rfl (nA_one _) ?_); rfl; rfl))
    try simp only [Exit.inBlock, Exit.then]
    refine bodyPost_ret (v := (failA 5 : Fan).v) ?_ rfl ?_
    rotate_left
    · rw [HR.out]; exact ⟨rfl, (WsK.of HWS.out K9.out).row X9.out (by omega) (by decide) (by decide) (by decide) _⟩
    · rw [results_cell1 rfl]; simp [asAddr, Result.andThen, Act.put, run_ansv (X9.out.row _)]
set_option maxHeartbeats 16000000 in
theorem do_14 {w : World} {gw : Nat} {gs : Nat → Nat} {W : Fw} (h : Ws w gw gs W) (hok : OkW W) (o : Fop) (ho : o.fits) (hk : o.kind = 14) :
    Calls Try.prog 22 #[.pointer (some ⟨gw, 0, none⟩), .agg (opA o)] w (GivesW gw gs (doF W o) w) := by
  have HFA := Lib.hid (fun (e : Int) (W : World) => fails_any e W)
  have HWS := Lib.hid h
  have hgw := h.top.lt
  have HR : Hid (doF W o = (W, failA 0)) := Lib.hid (by unfold doF; rw [if_neg (by omega), if_pos hk])
  have hW1 : Below w.heap.size w ((w.alloc (.cells (opA o) 43)).alloc (.cells #[.int .i64 0, .int .i64 0, .int .i64 0, .int .i64 0] 47)) := (below1 _ _).alloc (by simp) _
  have hO1 : Bx ((w.alloc (.cells (opA o) 43)).alloc (.cells #[.int .i64 0, .int .i64 0, .int .i64 0, .int .i64 0] 47)) w.heap.size 43 (opA o) := (Bx.new _ _ _).below (below1 _ _)
  have hA1 : Bx ((w.alloc (.cells (opA o) 43)).alloc (.cells #[.int .i64 0, .int .i64 0, .int .i64 0, .int .i64 0] 47)) (w.heap.size + 1) 47 #[.int .i64 0, .int .i64 0, .int .i64 0, .int .i64 0] := by
    have := Bx.new (w.alloc (.cells (opA o) 43)) 47 #[.int .i64 0, .int .i64 0, .int .i64 0, .int .i64 0]
    rwa [World.size_alloc] at this
  obtain ⟨w1, hw1⟩ : ∃ w1, w1 = ((w.alloc (.cells (opA o) 43)).alloc (.cells #[.int .i64 0, .int .i64 0, .int .i64 0, .int .i64 0] 47)) := ⟨_, rfl⟩
  have HW1 := Lib.hid hw1
  rw [← hw1] at hW1 hO1 hA1
  have K1 := Lib.hid hW1
  have O1 := Lib.hid hO1
  have A1 := Lib.hid hA1
  have c0 : ((w.alloc (.cells (opA o) 43)).alloc (.cells #[.int .i64 0, .int .i64 0, .int .i64 0, .int .i64 0] 47)).cell? ⟨w.heap.size, 0, none⟩ = some (.int .i64 o.kind) := by rw [← hw1, O1.out.cell]; rfl
  clear h hw1 hW1 hO1 hA1
  generalize doF W o = rs at *
  rw [hk] at c0
  obtain ⟨oA, hoA⟩ : ∃ oA, oA = opA o := ⟨_, rfl⟩
  rw [← hoA] at HW1 O1 c0 ⊢
  clear hoA ho hk
  go_enter Try.func22, Try.ntmps22
  go_wp2_with (first
    | ((with_reducible refine stB infoN (w.heap.size + 1) (nA (failA 0)) ?_ ?_ (HW1.out ▸ A1.out) rfl rfl (nA_one _) ?_); rfl; rfl))
  rw [← HW1.out]
  try simp only [Exit.inBlock, Exit.then]
  refine bodyPost_ret (v := (failA 0 : Fan).v) ?_ rfl ?_
  rotate_left
  · rw [HR.out]; exact ⟨rfl, (WsK.of HWS.out K1.out).row A1.out (by omega) (by decide) (by decide) (by decide) _⟩
  · rw [results_cell1 rfl]; simp [asAddr, Result.andThen, Act.put, run_ansv (A1.out.row _)]
end Go.Proofs.Ytglnnplijienbaa

/- flat: Do, no process. -/
namespace Go.Proofs.Ytglnnplijienbaa
open Go.ChangeShapes Go.WideShapes Go.ChangeAt Go.RowKit Go.Joins Go.Sort
set_option linter.unusedVariables false
set_option linter.unusedSimpArgs false
set_option maxRecDepth 100000
set_option maxHeartbeats 16000000 in
theorem do_proc {w : World} {gw : Nat} {gs : Nat → Nat} {W : Fw} (h : Ws w gw gs W) (hok : OkW W) (o : Fop) (ho : o.fits) (hk : 1 ≤ o.kind ∧ o.kind ≤ 13) (hp : o.proc < 0 ∨ 4 ≤ o.proc ∨ (W o.proc.toNat).live = false) :
    Calls Try.prog 22 #[.pointer (some ⟨gw, 0, none⟩), .agg (opA o)] w (GivesW gw gs (doF W o) w) := by
  have HFA := Lib.hid (fun (e : Int) (W : World) => fails_any e W)
  have HWS := Lib.hid h
  have hgw := h.top.lt
  have HR : Hid (doF W o = (W, failA 3)) := Lib.hid (by unfold doF; rw [if_neg (by omega), if_neg (by omega), if_pos hp])
  have hW1 : Below w.heap.size w ((w.alloc (.cells (opA o) 43)).alloc (.cells #[.int .i64 0, .int .i64 0, .int .i64 0, .int .i64 0] 47)) := (below1 _ _).alloc (by simp) _
  have hO1 : Bx ((w.alloc (.cells (opA o) 43)).alloc (.cells #[.int .i64 0, .int .i64 0, .int .i64 0, .int .i64 0] 47)) w.heap.size 43 (opA o) := (Bx.new _ _ _).below (below1 _ _)
  have hA1 : Bx ((w.alloc (.cells (opA o) 43)).alloc (.cells #[.int .i64 0, .int .i64 0, .int .i64 0, .int .i64 0] 47)) (w.heap.size + 1) 47 #[.int .i64 0, .int .i64 0, .int .i64 0, .int .i64 0] := by
    have := Bx.new (w.alloc (.cells (opA o) 43)) 47 #[.int .i64 0, .int .i64 0, .int .i64 0, .int .i64 0]
    rwa [World.size_alloc] at this
  obtain ⟨w1, hw1⟩ : ∃ w1, w1 = ((w.alloc (.cells (opA o) 43)).alloc (.cells #[.int .i64 0, .int .i64 0, .int .i64 0, .int .i64 0] 47)) := ⟨_, rfl⟩
  have HW1 := Lib.hid hw1
  rw [← hw1] at hW1 hO1 hA1
  have K1 := Lib.hid hW1
  have O1 := Lib.hid hO1
  have A1 := Lib.hid hA1
  have c0 : ((w.alloc (.cells (opA o) 43)).alloc (.cells #[.int .i64 0, .int .i64 0, .int .i64 0, .int .i64 0] 47)).cell? ⟨w.heap.size, 0, none⟩ = some (.int .i64 o.kind) := by rw [← hw1, O1.out.cell]; rfl
  clear h hw1 hW1 hO1 hA1
  have OP : Hid ((opA o)[1]? = some (.int .i64 o.proc)) := Lib.hid rfl
  generalize doF W o = rs at *
  obtain ⟨kd, hkd⟩ : ∃ kd, kd = o.kind := ⟨_, rfl⟩
  obtain ⟨pr, hpr⟩ : ∃ pr, pr = o.proc := ⟨_, rfl⟩
  rw [← hkd] at c0 hk
  rw [← hpr] at OP hp
  clear hkd hpr
  obtain ⟨oA, hoA⟩ : ∃ oA, oA = opA o := ⟨_, rfl⟩
  rw [← hoA] at HW1 O1 c0 OP ⊢
  clear hoA ho
  have hk1 : decide (kd < 1) = false := decide_eq_false (by omega)
  have hk2 : decide (14 < kd) = false := decide_eq_false (by omega)
  have hk3 : (kd == 14) = false := by rw [beq_eq_false_iff_ne]; omega
  clear hk
  by_cases h0 : pr < 0
  · have hd : decide (pr < 0) = true := decide_eq_true h0
    clear hp
    go_enter Try.func22, Try.ntmps22
    go_wp2
    rw [← HW1.out]
    clear c0
    have c1 : w1.cell? ⟨w.heap.size, 1, none⟩ = some (.int .i64 pr) := by rw [O1.out.cell]; exact OP.out
    have l1 : w.heap.size < w1.heap.size := O1.out.lt
    have gc : ∀ (d : Nat) (os : Array Obj) (b o : Nat), b < w1.heap.size → (grow (redrawn w1 d) os).cell? ⟨b, o, none⟩ = w1.cell? ⟨b, o, none⟩ := fun d os b o h => (below_regrown _ d os).cell (p := ⟨b, o, none⟩) h
    refine wp_rel [] (by kernel_rfl) (by kernel_rfl) ?_
    intro V hV
    iterate 4 (refine rq rfl rfl ?_; go_big_quiet_step (fail); refine wpQuiet_nil ?_)
    iterate 3 (refine rk (by kernel_rfl) ?_; go_big_quiet_step (fail); refine wpQuiet_nil ?_)
    iterate 2 (refine rq rfl rfl ?_; go_big_quiet_step (fail); refine wpQuiet_nil ?_)
    iterate 11 (refine rk (by kernel_rfl) ?_; go_big_quiet_step (fail); refine wpQuiet_nil ?_)
    refine rq rfl rfl ?_; go_big_quiet_step (fail); refine wpQuiet_nil ?_
    refine rend ?_
    intro w3 hb3 hf
    clear hf hV gc c1 l1
    have A3 := Lib.hid (A1.out.below hb3)
    have K3 := Lib.hid (K1.out.trans (hb3.mono K1.out.size))
    clear hb3
    go_wp2_with (first
      | (go_at_call 31; refine (HFA.out 3 _).mono ?_; rintro e w9 ⟨rfl, hb9⟩; have X9 := Lib.hid (A3.out.below hb9); have K9 := Lib.hid (K3.out.trans (hb9.mono K3.out.size)); clear hb9)
      | ((with_reducible refine stB infoN (w.heap.size + 1) (nA (failA 3)) ?_ ?_ X9.out rfl rfl (nA_one _) ?_); rfl; rfl))
    try simp only [Exit.inBlock, Exit.then]
    refine bodyPost_ret (v := (failA 3 : Fan).v) ?_ rfl ?_
    rotate_left
    · rw [HR.out]; exact ⟨rfl, (WsK.of HWS.out K9.out).row X9.out (by omega) (by decide) (by decide) (by decide) _⟩
    · rw [results_cell1 rfl]; simp [asAddr, Result.andThen, Act.put, run_ansv (X9.out.row _)]
  have hd : decide (pr < 0) = false := decide_eq_false h0
  by_cases h4 : 4 ≤ pr
  · have hd4 : decide (4 ≤ pr) = true := decide_eq_true h4
    clear hp
    go_enter Try.func22, Try.ntmps22
    go_wp2
    rw [← HW1.out]
    clear c0
    have c1 : w1.cell? ⟨w.heap.size, 1, none⟩ = some (.int .i64 pr) := by rw [O1.out.cell]; exact OP.out
    have l1 : w.heap.size < w1.heap.size := O1.out.lt
    have gc : ∀ (d : Nat) (os : Array Obj) (b o : Nat), b < w1.heap.size → (grow (redrawn w1 d) os).cell? ⟨b, o, none⟩ = w1.cell? ⟨b, o, none⟩ := fun d os b o h => (below_regrown _ d os).cell (p := ⟨b, o, none⟩) h
    refine wp_rel [] (by kernel_rfl) (by kernel_rfl) ?_
    intro V hV
    iterate 9 (refine rq rfl rfl ?_; go_big_quiet_step (fail); refine wpQuiet_nil ?_)
    iterate 11 (refine rk (by kernel_rfl) ?_; go_big_quiet_step (fail); refine wpQuiet_nil ?_)
    refine rq rfl rfl ?_; go_big_quiet_step (fail); refine wpQuiet_nil ?_
    refine rend ?_
    intro w3 hb3 hf
    clear hf hV gc c1 l1
    have A3 := Lib.hid (A1.out.below hb3)
    have K3 := Lib.hid (K1.out.trans (hb3.mono K1.out.size))
    clear hb3
    go_wp2_with (first
      | (go_at_call 31; refine (HFA.out 3 _).mono ?_; rintro e w9 ⟨rfl, hb9⟩; have X9 := Lib.hid (A3.out.below hb9); have K9 := Lib.hid (K3.out.trans (hb9.mono K3.out.size)); clear hb9)
      | ((with_reducible refine stB infoN (w.heap.size + 1) (nA (failA 3)) ?_ ?_ X9.out rfl rfl (nA_one _) ?_); rfl; rfl))
    try simp only [Exit.inBlock, Exit.then]
    refine bodyPost_ret (v := (failA 3 : Fan).v) ?_ rfl ?_
    rotate_left
    · rw [HR.out]; exact ⟨rfl, (WsK.of HWS.out K9.out).row X9.out (by omega) (by decide) (by decide) (by decide) _⟩
    · rw [results_cell1 rfl]; simp [asAddr, Result.andThen, Act.put, run_ansv (X9.out.row _)]
  have hd4 : decide (4 ≤ pr) = false := decide_eq_false h4
  have hlv : (W pr.toNat).live = false := by
    rcases hp with hp | hp | hp
    · exact absurd hp h0
    · exact absurd hp h4
    · exact hp
  obtain ⟨k, rfl⟩ := Int.eq_ofNat_of_zero_le (show 0 ≤ pr by omega)
  have hk4 : k < 4 := by omega
  rw [show (Int.toNat (k : Int)) = k by simp] at hlv
  clear hp h0 h4
  go_enter Try.func22, Try.ntmps22
  go_wp2
  rw [← HW1.out]
  clear c0
  have c1 : w1.cell? ⟨w.heap.size, 1, none⟩ = some (.int .i64 k) := by rw [O1.out.cell]; exact OP.out
  have l1 : w.heap.size < w1.heap.size := O1.out.lt
  have gc : ∀ (d : Nat) (os : Array Obj) (b o : Nat), b < w1.heap.size → (grow (redrawn w1 d) os).cell? ⟨b, o, none⟩ = w1.cell? ⟨b, o, none⟩ := fun d os b o h => (below_regrown _ d os).cell (p := ⟨b, o, none⟩) h
  have hd5 : decide (4 ≤ k) = false := decide_eq_false (by omega)
  have WS1 := Lib.hid (HWS.out.below K1.out)
  have cw : w1.cell? ⟨gw, k, none⟩ = some (.pointer (some ⟨gs k, 0, none⟩)) := WS1.out.at_ hk4
  have lw : gw < w1.heap.size := WS1.out.top.lt
  have cl : w1.cell? ⟨gs k, 0, none⟩ = some (.bool false) := by rw [WS1.out.cells hk4, hlv]
  have ll : gs k < w1.heap.size := lt_of_cell cl
  clear hlv
  refine wp_rel [] (by kernel_rfl) (by kernel_rfl) ?_
  intro V hV
  iterate 12 (refine rq rfl rfl ?_; go_big_quiet_step (fail); refine wpQuiet_nil ?_)
  refine rn ⟨gw, 0, none⟩ (by kernel_rfl) rfl rfl ?_; go_big_quiet_step (fail); refine wpQuiet_nil ?_
  iterate 3 (refine rq rfl rfl ?_; go_big_quiet_step (fail); refine wpQuiet_nil ?_)
  refine rn ⟨gs k, 0, none⟩ (by kernel_rfl) rfl rfl ?_; go_big_quiet_step (fail); refine wpQuiet_nil ?_
  iterate 4 (refine rq rfl rfl ?_; go_big_quiet_step (fail); refine wpQuiet_nil ?_)
  refine rend ?_
  intro w3 hb3 hf
  clear hf hV gc c1 l1 cw lw cl ll
  have A3 := Lib.hid (A1.out.below hb3)
  have K3 := Lib.hid (K1.out.trans (hb3.mono K1.out.size))
  clear hb3
  go_wp2_with (first
    | (go_at_call 31; refine (HFA.out 3 _).mono ?_; rintro e w9 ⟨rfl, hb9⟩; have X9 := Lib.hid (A3.out.below hb9); have K9 := Lib.hid (K3.out.trans (hb9.mono K3.out.size)); clear hb9)
    | ((with_reducible refine stB infoN (w.heap.size + 1) (nA (failA 3)) ?_ ?_ X9.out rfl rfl (nA_one _) ?_); rfl; rfl))
  try simp only [Exit.inBlock, Exit.then]
  refine bodyPost_ret (v := (failA 3 : Fan).v) ?_ rfl ?_
  rotate_left
  · rw [HR.out]; exact ⟨rfl, (WsK.of HWS.out K9.out).row X9.out (by omega) (by decide) (by decide) (by decide) _⟩
  · rw [results_cell1 rfl]; simp [asAddr, Result.andThen, Act.put, run_ansv (X9.out.row _)]
end Go.Proofs.Ytglnnplijienbaa

/- flat: Do, fork. -/
namespace Go.Proofs.Ytglnnplijienbaa
open Go.ChangeShapes Go.WideShapes Go.ChangeAt Go.RowKit Go.Joins Go.Sort
set_option linter.unusedVariables false
set_option linter.unusedSimpArgs false
set_option maxRecDepth 100000
set_option maxHeartbeats 16000000 in
theorem do_fork {w : World} {gw : Nat} {gs : Nat → Nat} {W : Fw} (h : Ws w gw gs W) (hok : OkW W) (o : Fop) (ho : o.fits) (hk : o.kind = 8) (h0 : 0 ≤ o.proc) (h4 : o.proc < 4) (hl : (W o.proc.toNat).live = true) :
    Calls Try.prog 22 #[.pointer (some ⟨gw, 0, none⟩), .agg (opA o)] w (GivesW gw gs (doF W o) w) := by
  have HFA := Lib.hid (fun (e : Int) (W : World) => fails_any e W)
  have HWS := Lib.hid h
  have hgw := h.top.lt
  have HR : Hid (doF W o = forkF W (W o.proc.toNat)) := Lib.hid (by
    unfold doF
    rw [if_neg (by omega), if_neg (by omega), if_neg (by rintro (h | h | h); omega; omega; rw [hl] at h; cases h)]
    rw [if_neg (by omega), if_neg (by omega), if_pos hk])
  have hW1 : Below w.heap.size w ((w.alloc (.cells (opA o) 43)).alloc (.cells #[.int .i64 0, .int .i64 0, .int .i64 0, .int .i64 0] 47)) := (below1 _ _).alloc (by simp) _
  have hO1 : Bx ((w.alloc (.cells (opA o) 43)).alloc (.cells #[.int .i64 0, .int .i64 0, .int .i64 0, .int .i64 0] 47)) w.heap.size 43 (opA o) := (Bx.new _ _ _).below (below1 _ _)
  have hA1 : Bx ((w.alloc (.cells (opA o) 43)).alloc (.cells #[.int .i64 0, .int .i64 0, .int .i64 0, .int .i64 0] 47)) (w.heap.size + 1) 47 #[.int .i64 0, .int .i64 0, .int .i64 0, .int .i64 0] := by
    have := Bx.new (w.alloc (.cells (opA o) 43)) 47 #[.int .i64 0, .int .i64 0, .int .i64 0, .int .i64 0]
    rwa [World.size_alloc] at this
  obtain ⟨w1, hw1⟩ : ∃ w1, w1 = ((w.alloc (.cells (opA o) 43)).alloc (.cells #[.int .i64 0, .int .i64 0, .int .i64 0, .int .i64 0] 47)) := ⟨_, rfl⟩
  have HW1 := Lib.hid hw1
  rw [← hw1] at hW1 hO1 hA1
  have K1 := Lib.hid hW1
  have O1 := Lib.hid hO1
  have A1 := Lib.hid hA1
  have c0 : ((w.alloc (.cells (opA o) 43)).alloc (.cells #[.int .i64 0, .int .i64 0, .int .i64 0, .int .i64 0] 47)).cell? ⟨w.heap.size, 0, none⟩ = some (.int .i64 o.kind) := by rw [← hw1, O1.out.cell]; rfl
  clear h hw1 hW1 hO1 hA1
  have OP : Hid ((opA o)[1]? = some (.int .i64 o.proc)) := Lib.hid rfl
  have OK : Hid ((opA o)[0]? = some (.int .i64 o.kind)) := Lib.hid rfl
  have HOZ : Hid ((opA o).size = 12) := Lib.hid rfl
  generalize doF W o = rs at *
  obtain ⟨kd, hkd⟩ : ∃ kd, kd = o.kind := ⟨_, rfl⟩
  obtain ⟨pr, hpr⟩ : ∃ pr, pr = o.proc := ⟨_, rfl⟩
  have hko := hk
  rw [← hkd] at c0 OK hk
  rw [← hpr] at OP h0 h4 hl
  rw [← hpr] at HR
  clear hkd hpr
  obtain ⟨k, rfl⟩ := Int.eq_ofNat_of_zero_le h0
  have hk4 : k < 4 := by omega
  simp only [Int.toNat_natCast] at hl HR
  have hd : decide ((k : Int) < 0) = false := decide_eq_false (by omega)
  have hd4 : decide (4 ≤ (k : Int)) = false := decide_eq_false (by omega)
  have hd5 : decide (4 ≤ k) = false := decide_eq_false (by omega)
  have HFK := Lib.hid (fun (w' : World) (hb : Below w.heap.size w w') => fork_any (HWS.out.below hb) hok hk4)
  clear hko
  obtain ⟨oA, hoA⟩ : ∃ oA, oA = opA o := ⟨_, rfl⟩
  rw [← hoA] at HW1 O1 c0 OP OK HOZ  ⊢
  clear hoA ho h0 h4
  subst hk
  obtain ⟨r, hr⟩ : ∃ r, r = forkF W (W k) := ⟨_, rfl⟩
  rw [← hr] at HFK HR
  clear hr hok
  go_enter Try.func22, Try.ntmps22
  go_wp2
  rw [← HW1.out]
  clear c0
  have c1 : w1.cell? ⟨w.heap.size, 1, none⟩ = some (.int .i64 k) := by rw [O1.out.cell]; exact OP.out
  have l1 : w.heap.size < w1.heap.size := O1.out.lt
  have gc : ∀ (d : Nat) (os : Array Obj) (b o : Nat), b < w1.heap.size → (grow (redrawn w1 d) os).cell? ⟨b, o, none⟩ = w1.cell? ⟨b, o, none⟩ := fun d os b o h => (below_regrown _ d os).cell (p := ⟨b, o, none⟩) h
  have WS1 := Lib.hid (HWS.out.below K1.out)
  have cw : w1.cell? ⟨gw, k, none⟩ = some (.pointer (some ⟨gs k, 0, none⟩)) := WS1.out.at_ hk4
  have lw : gw < w1.heap.size := WS1.out.top.lt
  have cl : w1.cell? ⟨gs k, 0, none⟩ = some (.bool true) := by rw [WS1.out.cells hk4, hl]
  have ll : gs k < w1.heap.size := lt_of_cell cl
  refine wp_rel [] (by kernel_rfl) (by kernel_rfl) ?_
  intro V hV
  iterate 12 (refine rq rfl rfl ?_; go_big_quiet_step (fail); refine wpQuiet_nil ?_)
  refine rn ⟨gw, 0, none⟩ (by kernel_rfl) rfl rfl ?_; go_big_quiet_step (fail); refine wpQuiet_nil ?_
  iterate 3 (refine rq rfl rfl ?_; go_big_quiet_step (fail); refine wpQuiet_nil ?_)
  refine rn ⟨gs k, 0, none⟩ (by kernel_rfl) rfl rfl ?_; go_big_quiet_step (fail); refine wpQuiet_nil ?_
  iterate 4 (refine rq rfl rfl ?_; go_big_quiet_step (fail); refine wpQuiet_nil ?_)
  refine rend ?_
  intro w3 hb3 hf
  clear hf hV gc c1 l1 cw lw cl ll
  have A3 := Lib.hid (A1.out.below hb3)
  have O3 := Lib.hid (O1.out.below hb3)
  have K3 := Lib.hid (K1.out.trans (hb3.mono K1.out.size))
  have WS3 := Lib.hid (WS1.out.below hb3)
  clear hb3
  go_wp2
  have c1 : w3.cell? ⟨w.heap.size, 1, none⟩ = some (.int .i64 k) := by rw [O3.out.cell]; exact OP.out
  have l1 : w.heap.size < w3.heap.size := O3.out.lt
  have cw : w3.cell? ⟨gw, k, none⟩ = some (.pointer (some ⟨gs k, 0, none⟩)) := WS3.out.at_ hk4
  have lw : gw < w3.heap.size := WS3.out.top.lt
  have gc : ∀ (d : Nat) (os : Array Obj) (b o : Nat), b < w3.heap.size → (grow (redrawn w3 d) os).cell? ⟨b, o, none⟩ = w3.cell? ⟨b, o, none⟩ := fun d os b o h => (below_regrown _ d os).cell (p := ⟨b, o, none⟩) h
  refine wp_rel [] (by kernel_rfl) (by kernel_rfl) ?_
  intro V hV
  iterate 3 (refine rq rfl rfl ?_; go_big_quiet_step (fail); refine wpQuiet_nil ?_)
  refine rn ⟨gw, 0, none⟩ (by kernel_rfl) rfl rfl ?_; go_big_quiet_step (fail); refine wpQuiet_nil ?_
  iterate 4 (refine rq rfl rfl ?_; go_big_quiet_step (fail); refine wpQuiet_nil ?_)
  refine rend ?_
  intro w5 hb5 hf
  clear hf hV gc c1 l1 cw lw
  have A5 := Lib.hid (A3.out.below hb5)
  have O5 := Lib.hid (O3.out.below hb5)
  have K5 := Lib.hid (K3.out.trans (hb5.mono K3.out.size))
  have WS5 := Lib.hid (WS3.out.below hb5)
  clear hb5
  have c0 := (O5.out.cell 0).trans OK.out
  have l0 : w.heap.size < w5.heap.size := O5.out.lt
  have HC := Lib.hid (HFK.out w5 K5.out)
  unfold GivesW at HC
  go_wp2_with (first
    | (go_at_call 37
       refine HC.out.mono ?_
       rintro e w6 ⟨rfl, hk6⟩
       have WK6 := Lib.hid hk6
       have A6 : Hid (Bx w6 (w.heap.size + 1) 47 #[.int .i64 0, .int .i64 0, .int .i64 0, .int .i64 0]) := Lib.hid (by obtain ⟨_, _, hkp, _⟩ := hk6; exact hkp.bxT (w := w5) WS5.out A5.out (by decide) (by decide))
       clear hk6)
    | ((with_reducible refine stB infoN (w.heap.size + 1) (nA r.2) ?_ ?_ A6.out rfl rfl (nA_one _) ?_); rfl; rfl))
  try simp only [Exit.inBlock, Exit.then]
  refine bodyPost_ret (v := (r.2 : Fan).v) ?_ rfl ?_
  rotate_left
  · rw [HR.out]; exact ⟨rfl, (WsK.trans K5.out WK6.out).row A6.out (by omega) (by decide) (by decide) (by decide) _⟩
  · rw [results_cell1 rfl]; simp [asAddr, Result.andThen, Act.put, run_ansv (A6.out.row _)]
end Go.Proofs.Ytglnnplijienbaa
