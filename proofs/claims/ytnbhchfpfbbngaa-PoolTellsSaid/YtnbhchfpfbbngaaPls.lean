/- pool.New, Take, Share, Drop. -/
import Derived.Test.YtnbhchfpfbbngaaPlr
namespace Go.Proofs.Ytnbhchfpfbbngaa
open Go.ChangeShapes Go.WideShapes Go.ChangeAt Go.RowKit Go.Joins
set_option linter.unusedVariables false
set_option linter.unusedSimpArgs false
def GivesP1 (w : World) (q : Pl) (e : Ending) (w' : World) : Prop := ∃ cs, e = .returned (.agg cs) ∧ PlV w' cs q ∧ Below w.heap.size w w'
def GivesP2 (w : World) (r : Pl × Int) (e : Ending) (w' : World) : Prop := ∃ cs, e = .returned (.tuple #[.agg cs, .int .i64 r.2]) ∧ PlV w' cs r.1 ∧ Below w.heap.size w w'
def GivesP3 (w : World) (r : Pl × Int × Int) (e : Ending) (w' : World) : Prop := ∃ cs, e = .returned (.tuple #[.agg cs, .int .i64 r.2.1, .int .i64 r.2.2]) ∧ PlV w' cs r.1 ∧ Below w.heap.size w w'
theorem ldvP {w : World} {g : Nat} {T : TypeId} {cs : Array Value} (hc : Bx w g T cs) (hn : cs.size = 65) : (loadVar 42 ⟨g, 0, none⟩).run Try.prog w = .ok (.agg cs) w := by
  have := run_loadVar_mid (P := Try.prog) w g 0 42 cs.toList _ (fun j v hv => by rw [Nat.zero_add, hc.cell]; simpa using hv) Try.underlying42 rfl (by rw [infoP, Array.length_toList, hn])
  simpa using this
theorem results_cell1 {fn : Func} {p : Tmp} {ty : TypeId} (h : fn.results = #[.cell p ty]) (tmps : Array Value) (P : Program) (w : World) :
    (results fn tmps).run P w = ((asAddr (tmps.getD p undef)).run P w).andThen fun a w₁ => (loadVar ty a).run P w₁ := by
  simp only [results, h]
  simp [Sem.run_bind, Result.andThen]
theorem results_cell_tmp2 {fn : Func} {p u u' : Tmp} {ty : TypeId} (h : fn.results = #[.cell p ty, .tmp u, .tmp u']) (tmps : Array Value) (P : Program) (w : World) :
    (results fn tmps).run P w =
      ((asAddr (tmps.getD p undef)).run P w).andThen fun a w₁ => ((loadVar ty a).run P w₁).andThen fun v w₂ => .ok (.tuple #[v, tmps.getD u undef, tmps.getD u' undef]) w₂ := by
  simp only [results, h]
  simp [Sem.run_bind, Result.andThen]
theorem zP_one : zP.all (·.oneCell') = true := (zP_v default).one
/-- A slice that does not lie in block g. -/
def Far (v : Value) (g : Nat) : Prop := ∀ b off m n c, v = .slice (some ⟨b, off, m⟩) n c → 0 < n → b ≠ g
theorem Far.old {w : World} {v : Value} {xs : List Blk} (h : Bv w v xs) {g : Nat} (hg : w.heap.size ≤ g) : Far v g := by
  intro b off m n c e hn
  obtain ⟨A, n', c', rfl, hr, _⟩ := h
  injection e with e1 e2 e3
  subst e2
  obtain ⟨b', off', e', hb, _⟩ := hr.2.2 hn
  rw [e1] at e'
  injection e' with e'
  injection e' with e1 _ _
  omega
theorem Far.new {w : World} {v : Value} {base : Nat} {xs : List Blk} (h : Os fB 2 30 w base v xs) {g : Nat} (hg : g < base) : Far v g := by
  intro b off m n c e hn
  obtain ⟨h1, ⟨e', h0⟩ | ⟨b', cap, cur, e', hb, _⟩⟩ := h
  · rw [e] at e'; cases e'
  · rw [e] at e'
    injection e' with e1 _ _
    injection e1 with e1
    injection e1 with e1 _ _
    omega
theorem Bv.change {w w' : World} {v : Value} {xs : List Blk} {g : Nat} (h : Bv w v xs) (hf : Far v g) (hs : w.heap.size ≤ w'.heap.size) (hb : ∀ k, k ≠ g → w'.heap[k]? = w.heap[k]?) : Bv w' v xs := by
  obtain ⟨A, n, c, rfl, hr, hn⟩ := h
  refine ⟨A, n, c, rfl, ⟨hr.1, hr.2.1, fun h0 => ?_⟩, hn⟩
  obtain ⟨b, off, e, hb1, hcs⟩ := hr.2.2 h0
  subst e
  have hne : b ≠ g := hf b off none n c rfl h0
  refine ⟨b, off, rfl, by omega, fun i x hx j u hu => ?_⟩
  rw [World.cell?_of_block (hb b hne)]
  exact hcs i x hx j u hu
theorem Bv.row {w : World} {v : Value} {xs : List Blk} {g : Nat} (h : Bv w v xs) (hf : Far v g) (cs : Array Value) : Bv (w.setRow g cs) v xs := h.change hf (by simp [World.setRow]) fun k hk => setRow_other w g k cs hk
theorem Bv.cell {w : World} {v : Value} {xs : List Blk} {g : Nat} (h : Bv w v xs) (hf : Far v g) (i : Nat) (u : Value) : Bv (w.setCell ⟨g, i, none⟩ u) v xs := h.change hf (by simp [World.setCell]) fun k hk => Below.heap_setCell w ⟨g, i, none⟩ u k hk
theorem PlV.change {w w' : World} {cs : Array Value} {p : Pl} {g : Nat} (h : PlV w cs p) (hf : ∀ v, cs[0]? = some v → Far v g) (hs : w.heap.size ≤ w'.heap.size) (hb : ∀ k, k ≠ g → w'.heap[k]? = w.heap[k]?) : PlV w' cs p :=
  ⟨h.size, by obtain ⟨v, h1, h2⟩ := h.list; exact ⟨v, h1, h2.change (hf v h1) hs hb⟩, h.at_⟩
theorem PlV.row {w : World} {cs : Array Value} {p : Pl} {g : Nat} (h : PlV w cs p) (hf : ∀ v, cs[0]? = some v → Far v g) (rs : Array Value) : PlV (w.setRow g rs) cs p := h.change hf (by simp [World.setRow]) fun k hk => setRow_other w g k rs hk
theorem PlV.cell {w : World} {cs : Array Value} {p : Pl} {g : Nat} (h : PlV w cs p) (hf : ∀ v, cs[0]? = some v → Far v g) (i : Nat) (u : Value) : PlV (w.setCell ⟨g, i, none⟩ u) cs p := h.change hf (by simp [World.setCell]) fun k hk => Below.heap_setCell w ⟨g, i, none⟩ u k hk
theorem mkP_far {v : Value} {rs : Array Value} {g : Nat} (h : Far v g) : ∀ u, (mkP v rs)[0]? = some u → Far u g := by
  intro u hu
  rw [mkP, Array.getElem?_append_left (by simp)] at hu
  have : v = u := by simpa using hu
  rw [← this]; exact h
theorem PlV.far {w : World} {cs : Array Value} {p : Pl} (h : PlV w cs p) {g : Nat} (hg : w.heap.size ≤ g) : ∀ v, cs[0]? = some v → Far v g := by
  intro v hv
  obtain ⟨u, hu, hb⟩ := h.list
  rw [hu] at hv; cases hv
  exact Far.old hb hg
theorem new_o (w : World) : Calls Try.prog 16 #[] w fun e w' => ∃ v, e = .returned v ∧ Bv w' v newL ∧ (∀ g, g < w.heap.size → Far v g) ∧ Below w.heap.size w w' :=
  (bnew_own w).mono fun e w' ⟨v, h1, h2, h3⟩ => ⟨v, h1, Bv.of h2 (by decide), fun g hg => Far.new h2 hg, h3⟩
theorem take_o {w : World} {v : Value} {xs : List Blk} (h : Bv w v xs) (hf : ∀ x ∈ xs, x.fits) (o : Int) (ho : I64 o) : Calls Try.prog 11 #[v, .int .i64 o] w fun e w' => ∃ u, e = .returned (.tuple #[u, .int .i64 (takeS xs o).2.1, .int .i64 (takeS xs o).2.2]) ∧ Bv w' u (takeS xs o).1 ∧ (∀ g, g < w.heap.size → Far u g) ∧ Below w.heap.size w w' := by
  obtain ⟨A, n, c, rfl, hr, hn⟩ := h
  exact (take_any A n c xs o ho w _ hr hf (Nat.le_refl _) hn).mono fun e w' ⟨u, h1, h2, h3⟩ => ⟨u, h1, Bv.of h2 (by have := rp_len (takeS_rp xs o); omega), fun g hg => Far.new h2 hg, h3⟩
theorem give_o {w : World} {v : Value} {xs : List Blk} (h : Bv w v xs) (hf : ∀ x ∈ xs, x.fits) (b : Blk) (hb : b.fits) : Calls Try.prog 12 #[v, .agg #[.int .i64 b.a, .int .i64 b.o]] w fun e w' => ∃ u, e = .returned (.tuple #[u, .int .i64 (giveS xs b).2]) ∧ Bv w' u (giveS xs b).1 ∧ (∀ g, g < w.heap.size → Far u g) ∧ Below w.heap.size w w' := by
  obtain ⟨A, n, c, rfl, hr, hn⟩ := h
  exact (give_any A n c xs b hb w _ hr hf (Nat.le_refl _) hn).mono fun e w' ⟨u, h1, h2, h3⟩ => ⟨u, h1, Bv.of h2 (by have := rp_len (giveS_rp xs b); omega), fun g hg => Far.new h2 hg, h3⟩
theorem bblocks_o {w : World} {g : Nat} {fl : Nat → Bool} (h : Fr w g fl) : Calls Try.prog 39 #[.slice (some ⟨g, 0, none⟩) 64 64] w fun e w' => ∃ v, e = .returned v ∧ Bv w' v (canon fl) ∧ (∀ g, g < w.heap.size → Far v g) ∧ Below w.heap.size w w' :=
  (bblocks_any g fl w h).mono fun e w' ⟨v, h1, h2, h3⟩ => ⟨v, h1, Bv.of h2 (by have := rp_len (canon_rp fl); omega), fun g hg => Far.new h2 hg, h3⟩
theorem new_free : (⟨newL, fun _ => 0⟩ : Pl) = ofR fun _ => 0 := by
  unfold ofR
  refine congrArg (fun l => (⟨l, _⟩ : Pl)) (canon_eq new_rp fun n hn => ?_).symm
  rw [new_cov]
  exact ⟨fun _ => rfl, fun _ => ⟨by omega, by omega⟩⟩
set_option maxHeartbeats 2000000 in
set_option maxRecDepth 100000 in
theorem newP_v (w : World) : Calls Try.prog 28 #[] w (GivesP1 w (ofR fun _ => 0)) := by
  have HN := Lib.hid (new_o (w.alloc (.cells zP 42)))
  have HW0 := Lib.hid ((Below.refl w.heap.size w).alloc (Nat.le_refl _) (.cells zP 42))
  have HX0 := Lib.hid (Bx.new w 42 zP)
  go_enter Try.func28, Try.ntmps28
  go_wp2_with (first
    | (with_reducible refine alP ?_)
    | ((with_reducible refine bdP1 (A := A) (n := n) (c := c) ?_ ?_); rfl)
    | ((with_reducible refine stPg w.heap.size (mkP (.slice A n c) zR) ?_ ?_ HX1.out zP_size HM.out.size HM.out.one ?_); rfl; rfl)
    | (go_at_call 16
       refine HN.out.mono ?_
       rintro e w1 ⟨v1, rfl, hv1, hf1, hb1⟩
       have HM := Lib.hid (mkP_v hv1 zR_v)
       have HX1 := Lib.hid (HX0.out.below hb1)
       have HB1 := Lib.hid (HW0.out.trans (hb1.mono HW0.out.size))
       have HFR := Lib.hid (hf1 w.heap.size (by simp))
       obtain ⟨A, n, c, rfl, _⟩ := hv1
       clear hb1 hf1))
  try simp only [Exit.inBlock, Exit.then]
  refine bodyPost_ret (v := .agg (mkP (.slice A n c) zR)) ?_ rfl ⟨_, rfl, ?_, below_setRow HB1.out (Nat.le_refl _) _⟩
  · rw [results_cell1 rfl]
    simp [asAddr, Result.andThen, Act.put, ldvP (HX1.out.row _) HM.out.size]
  · rw [← new_free]
    exact HM.out.row (mkP_far HFR.out) _
end Go.Proofs.Ytnbhchfpfbbngaa
