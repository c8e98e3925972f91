/- BuddyTells: its walk. -/
import Derived.Test.YtnbhchfpfbbngaaBdy
namespace Go.Proofs.Ytnbhchfpfbbngaa
open Go.ChangeShapes Go.WideShapes Go.ChangeAt Go.RowKit Go.Joins Go.Sort
set_option linter.unusedVariables false
set_option linter.unusedSimpArgs false
attribute [local go_sem] Oper.quiet Oper.quietAt Oper.quietUpon
/-- A call that answers a known value, among operations whose worlds only grow. -/
theorem becomes_known {o : Oper} {a : Act} {w : World} {f : FuncId} {args : Array Value} {v : Value} {k : Nat} (h : (execOp a.eval o).run Try.prog w = .ok (.enter f args) w) (hc : Calls Try.prog f args w fun e w' => e = .returned v ∧ Below w.heap.size w w') : becomes Try.prog o a w fun u w' => (Sp.call k v).shape u ∧ (Sp.call k v).fact u w' :=
  becomes_call h (hc.mono fun e w' ⟨h1, h2⟩ => ⟨v, h1, h2, rfl, trivial⟩)
theorem equal_same {w : World} {v u : Value} {xs : List Blk} (h : Bv w v xs) (h2 : Bv w u xs) : Calls Try.prog 13 #[v, u] w fun e w' => e = .returned (.bool true) ∧ Below w.heap.size w w' := by
  have := equal_v h h2
  rwa [eqL_refl] at this
set_option maxHeartbeats 8000000 in
set_option maxRecDepth 100000 in
theorem tells_v {w : World} {v : Value} {xs : List Blk} (h : Bv w v xs) (hf : ∀ x ∈ xs, x.fits) (ord : Int) (ho : I64 ord) (b : Blk) (hb : b.fits) :
    Calls Try.prog 6 #[v, .int .i64 ord, .agg #[.int .i64 b.a, .int .i64 b.o]] w fun e w' => e = .returned (.bool true) ∧ Below w.heap.size w w' := by
  have HV := Lib.hid h
  have HW0 := Lib.hid ((Below.refl w.heap.size w).alloc (Nat.le_refl _) (.cells #[.int .i64 b.a, .int .i64 b.o] 30))
  obtain ⟨rt, hrt⟩ : ∃ r, r = takeS xs ord := ⟨_, rfl⟩
  obtain ⟨rg, hrg⟩ : ∃ r, r = giveS xs b := ⟨_, rfl⟩
  obtain ⟨rr, hrr⟩ : ∃ r, r = rightB xs := ⟨_, rfl⟩
  have HT1 : Hid (∀ W, Below w.heap.size w W → Calls Try.prog 11 #[v, .int .i64 ord] W fun e w' => ∃ u, e = .returned (.tuple #[u, .int .i64 rt.2.1, .int .i64 rt.2.2]) ∧ Bv w' u rt.1 ∧ Below W.heap.size W w') := Lib.hid (fun W hW => by rw [hrt]; exact take_v (HV.out.below hW) hf ord ho)
  have HT2 : Hid (∀ W, Below w.heap.size w W → Calls Try.prog 17 #[v, .int .i64 ord] W fun e w' => ∃ u, e = .returned (.tuple #[u, .int .i64 rt.2.1, .int .i64 rt.2.2]) ∧ Bv w' u rt.1 ∧ Below W.heap.size W w') := Lib.hid (fun W hW => by rw [hrt]; exact btake_v (HV.out.below hW) ord ho)
  have HG1 : Hid (∀ W, Below w.heap.size w W → Calls Try.prog 12 #[v, .agg #[.int .i64 b.a, .int .i64 b.o]] W fun e w' => ∃ u, e = .returned (.tuple #[u, .int .i64 rg.2]) ∧ Bv w' u rg.1 ∧ Below W.heap.size W w') := Lib.hid (fun W hW => by rw [hrg]; exact give_v (HV.out.below hW) hf b hb)
  have HG2 : Hid (∀ W, Below w.heap.size w W → Calls Try.prog 18 #[v, .agg #[.int .i64 b.a, .int .i64 b.o]] W fun e w' => ∃ u, e = .returned (.tuple #[u, .int .i64 rg.2]) ∧ Bv w' u rg.1 ∧ Below W.heap.size W w') := Lib.hid (fun W hW => by rw [hrg]; exact bgive_v (HV.out.below hW) b)
  have HR1 : Hid (∀ W, Below w.heap.size w W → Calls Try.prog 14 #[v] W fun e w' => e = .returned (.bool rr) ∧ Below W.heap.size W w') := Lib.hid (fun W hW => by rw [hrr]; exact right_v (HV.out.below hW) hf)
  have HR2 : Hid (∀ W, Below w.heap.size w W → Calls Try.prog 19 #[v] W fun e w' => e = .returned (.bool rr) ∧ Below W.heap.size W w') := Lib.hid (fun W hW => by rw [hrr]; exact bright_v (HV.out.below hW))
  obtain ⟨tl, ta, te⟩ := rt
  obtain ⟨gl, ge⟩ := rg
  clear hrt hrg hrr h hf ho hb
  simp only at HT1 HT2 HG1 HG2
  go_enter Try.func6, Try.ntmps6
  have hrr : (rr == rr) = true := by simp
  have hte : (te == te) = true := by simp
  have hta : (ta == ta) = true := by simp
  have hge : (ge == ge) = true := by simp
  go_wp2_with (first
    | (go_at_call 13; with_reducible refine (equal_same HB5.out HM5.out).mono ?_
       rintro e w6 ⟨rfl, hb6⟩
       have K6 := Lib.hid (K5.out.trans (hb6.mono K5.out.size))
       have B61 := Lib.hid (B51.out.below hb6)
       have B62 := Lib.hid (B52.out.below hb6)
       have B63 := Lib.hid (B53.out.below hb6)
       have B64 := Lib.hid (B54.out.below hb6)
       clear hb6 HB5 HM5 B51 B52 B53 B54)
    | (go_at_call 13; with_reducible refine (equal_same B81.out B82.out).mono ?_
       rintro e w10 ⟨rfl, hb10⟩
       have K10 := Lib.hid (K8.out.trans (hb10.mono K8.out.size))
       have B103 := Lib.hid (B83.out.below hb10)
       have B104 := Lib.hid (B84.out.below hb10)
       clear hb10 B81 B82 B83 B84)
    | (go_at_call 13; with_reducible refine (equal_same B103.out B104.out).mono ?_
       rintro e w9 ⟨rfl, hb9⟩
       have K9 := Lib.hid (K10.out.trans (hb9.mono K10.out.size))
       clear hb9)
    | (go_at_call 14
       refine (HR1.out w6 K6.out).mono ?_
       rintro e w7 ⟨rfl, hb7⟩
       have K7 := Lib.hid (K6.out.trans (hb7.mono K6.out.size))
       have B71 := Lib.hid (B61.out.below hb7)
       have B72 := Lib.hid (B62.out.below hb7)
       have B73 := Lib.hid (B63.out.below hb7)
       have B74 := Lib.hid (B64.out.below hb7)
       clear hb7 B61 B62 B63 B64)
    | (go_at_call 19
       refine (HR2.out w7 K7.out).mono ?_
       rintro e w8 ⟨rfl, hb8⟩
       have K8 := Lib.hid (K7.out.trans (hb8.mono K7.out.size))
       have B81 := Lib.hid (B71.out.below hb8)
       have B82 := Lib.hid (B72.out.below hb8)
       have B83 := Lib.hid (B73.out.below hb8)
       have B84 := Lib.hid (B74.out.below hb8)
       clear hb8 B71 B72 B73 B74)
    | (go_at_call 16
       refine (new_v w4).mono ?_
       rintro e w5 ⟨v5, rfl, hv5, hb5⟩
       have HA5 := Lib.hid ((Below.refl w5.heap.size w5).alloc (Nat.le_refl _) (.cells #[.int .i64 0, .int .i64 6] 30))
       have HB5 := Lib.hid (hv5.below HA5.out)
       have HM5 : Hid (Bv (w5.alloc (.cells #[.int .i64 0, .int .i64 6] 30)) (.slice (some ⟨w5.heap.size, 0, none⟩) 1 1) newL) := Lib.hid (one_made ⟨0, 6⟩ w5)
       have hall := hb5.trans (HA5.out.mono hb5.size)
       have K5 := Lib.hid (K4.out.trans (hall.mono K4.out.size))
       have B51 := Lib.hid (B1.out.below hall)
       have B52 := Lib.hid (B2.out.below hall)
       have B53 := Lib.hid (B3.out.below hall)
       have B54 := Lib.hid (B4.out.below hall)
       clear hv5 hb5 hall d0 d1 B1 B2 B3 B4)
    | (go_at_call 18
       refine (HG2.out w3 K3.out).mono ?_
       rintro e w4 ⟨u4, rfl, hu4, hb4⟩
       have B1 := Lib.hid (B1'.out.below hb4)
       have B2 := Lib.hid (B2'.out.below hb4)
       have B3 := Lib.hid (B3'.out.below hb4)
       have B4 := Lib.hid hu4
       have K4 := Lib.hid (K3.out.trans (hb4.mono K3.out.size))
       clear hu4 hb4 B1' B2' B3')
    | (go_at_call 12
       refine (HG1.out w2 K2.out).mono ?_
       rintro e w3 ⟨u3, rfl, hu3, hb3⟩
       have d0 : w3.cell? ⟨w.heap.size, 0, none⟩ = some (.int .i64 b.a) := by rw [hb3.cell (p := ⟨w.heap.size, 0, none⟩) hz2]; exact d20
       have d1 : w3.cell? ⟨w.heap.size, 1, none⟩ = some (.int .i64 b.o) := by rw [hb3.cell (p := ⟨w.heap.size, 1, none⟩) hz2]; exact d21
       have B1' := Lib.hid (B12.out.below hb3)
       have B2' := Lib.hid (B22.out.below hb3)
       have B3' := Lib.hid hu3
       have K3 := Lib.hid (K2.out.trans (hb3.mono K2.out.size))
       clear hu3 hb3 B12 B22 d20 d21)
    | (go_at_call 17
       refine (HT2.out w1 K1.out).mono ?_
       rintro e w2 ⟨u2, rfl, hu2, hb2⟩
       have d20 : w2.cell? ⟨w.heap.size, 0, none⟩ = some (.int .i64 b.a) := by rw [hb2.cell (p := ⟨w.heap.size, 0, none⟩) hz1]; exact d10
       have d21 : w2.cell? ⟨w.heap.size, 1, none⟩ = some (.int .i64 b.o) := by rw [hb2.cell (p := ⟨w.heap.size, 1, none⟩) hz1]; exact d11
       have hz2 : w.heap.size < w2.heap.size := by have := hb2.size; omega
       have B12 := Lib.hid (B11.out.below hb2)
       have B22 := Lib.hid hu2
       have K2 := Lib.hid (K1.out.trans (hb2.mono K1.out.size))
       clear hu2 hb2 B11 d10 d11)
    | (go_at_call 11
       refine (HT1.out _ HW0.out).mono ?_
       rintro e w1 ⟨u1, rfl, hu1, hb1⟩
       have d10 : w1.cell? ⟨w.heap.size, 0, none⟩ = some (.int .i64 b.a) := by rw [hb1.cell (p := ⟨w.heap.size, 0, none⟩) (by simp)]; simp [go_sem]
       have d11 : w1.cell? ⟨w.heap.size, 1, none⟩ = some (.int .i64 b.o) := by rw [hb1.cell (p := ⟨w.heap.size, 1, none⟩) (by simp)]; simp [go_sem]
       have hz1 : w.heap.size < w1.heap.size := by have := hb1.size; simp at this; omega
       have B11 := Lib.hid hu1
       have K1 := Lib.hid (HW0.out.trans (hb1.mono HW0.out.size))
       clear hu1 hb1))
  go_ret
  exact ⟨by first | rfl | simp, K9.out⟩
theorem buddyTells_walk {w : World} (A : Option Addr) (n c : Nat) (xs : List Blk) (hz : Rw fB 2 w w.heap.size A n xs) (hwf : ∀ x ∈ xs, x.fits) (hcap : n ≤ c) (hmax : c ≤ maxLen) (big : c ≤ 8796093021952) (ord : Int) (ho : I64 ord) (b : Blk) (hb : b.fits) :
    Calls Try.prog 6 #[.slice A n c, .int .i64 ord, .agg #[.int .i64 b.a, .int .i64 b.o]] w fun e w' => e = .returned (.bool true) ∧ Below w.heap.size w w' :=
  tells_v ⟨A, n, c, rfl, hz, by omega⟩ hwf ord ho b hb
end Go.Proofs.Ytnbhchfpfbbngaa
