/- swap.New, Get; the reference's SameSlots. -/
import Derived.Test.YtfhcjainhpjdfaaSwb
import Derived.Test.YtfhcjainhpjdfaaRegU
namespace Go.Proofs.Ytfhcjainhpjdfaa
open Go.ChangeShapes Go.WideShapes Go.ChangeAt Go.RowKit Go.Joins Go.Sort
set_option linter.unusedVariables false
attribute [local go_sem] Oper.quiet Oper.quietAt Oper.quietUpon
/-- A special operation that gives a slice of numbers. -/
def Sp.rown (at_ : Nat) (k : IntKind) (n : Nat) (zs : List Int) : Sp :=
  ⟨at_, fun v => ∃ A c, v = .slice A n c, fun v w => ∃ A c, v = .slice A n c ∧ Row k w w.heap.size A n zs, ⟨_, none, 0, rfl⟩,
    fun _ _ _ ⟨A, c, e, h⟩ hb => ⟨A, c, e, h.on hb (Nat.le_refl _)⟩⟩
theorem rw_madeS {α : Type} {f : α → List Value} {sz : Nat} {T : TypeId} {w : World} (hf : ∀ x, (f x).length = sz) (hs : 0 < sz) (xs : List α) (hm : xs.length ≤ 1000) : Rw f sz (w.alloc (.cells (xs.flatMap f).toArray T)) (w.heap.size + 1) (some ⟨w.heap.size, 0, none⟩) xs.length xs :=
  ⟨rfl, by unfold maxLen; omega, fun _ => ⟨w.heap.size, 0, rfl, Nat.lt_succ_self _, fun i x hx j v hv => by
    have hj : j < sz := by have := (List.getElem?_eq_some_iff.1 hv).1; rwa [hf] at this
    have h1 := flat_at hf xs i x hx j hj
    simp only [World.cell?, World.alloc, Array.getElem?_push_size, Nat.zero_add]
    rw [List.getElem?_toArray, h1, hv]; rfl⟩⟩
def zSv : Slv := ⟨0, none, 0, 0, none, 0, 0⟩
def zSl : Slo := ⟨0, [], []⟩
theorem zS_R (w : World) (B : Nat) : SlR w B zSv zSl := ⟨rfl, ⟨rfl, Nat.zero_le _, fun h => absurd h (Nat.lt_irrefl 0)⟩, ⟨rfl, Nat.zero_le _, fun h => absurd h (Nat.lt_irrefl 0)⟩, Nat.zero_le _, Nat.zero_le _, by show I64 0; unfold I64; omega⟩
def zcellsS : Array Value := ((List.replicate 64 zSv).flatMap fS).toArray
theorem make_S (w : World) : (Instr.makeSlice 36 (.int .i64 64) (.int .i64 64)).run Try.prog w = .ok (.slice (some ⟨w.heap.size, 0, none⟩) 64 64) (w.alloc (.cells zcellsS 52)) := by
  obtain ⟨i0, hi, hz0, hz1, hz2⟩ := info_parts info_S
  have hr := run_make (P := Try.prog) w 36 52 i0 (.agg #[.int .i64 0, .slice none 0 0, .slice none 0 0]) Try.underlying36 hi hz0 .i64 .i64 64 64 (by omega) (by omega) (by rw [hz2]; decide) (by decide)
  simp only [hz1] at hr
  rw [show madeCells (Value.agg #[Value.int IntKind.i64 0, Value.slice none 0 0, Value.slice none 0 0]).cells (Int.toNat 64 * 3) = zcellsS from by kernel_rfl] at hr
  exact hr
theorem zS_sls (w : World) (B : Nat) : Sls w B (List.replicate 64 zSv) (List.replicate 64 zSl) :=
  ⟨by simp, fun i x s hx hs => by
    obtain rfl := List.eq_of_mem_replicate (List.mem_of_getElem? hx)
    obtain rfl := List.eq_of_mem_replicate (List.mem_of_getElem? hs)
    exact zS_R w B⟩
theorem zS_row (w : World) : Rw fS 3 (w.alloc (.cells zcellsS 52)) (w.heap.size + 1) (some ⟨w.heap.size, 0, none⟩) 64 (List.replicate 64 zSv) := rw_madeS fS_len (by decide) (List.replicate 64 zSv) (by decide)
theorem snew_any (w : World) : Calls Try.prog 29 #[] w fun e w' => e = .returned (.slice (some ⟨w.heap.size, 0, none⟩) 64 64) ∧ w' = w.alloc (.cells zcellsS 52) := by
  have hm := make_S w
  generalize zcellsS = Z at *
  go_enter Try.func29, Try.ntmps29
  go_wp2
  go_ret
  exact ⟨rfl, rfl⟩

def TGet (b t : List Int) (E : Int) (w : World) (e : Ending) (w' : World) : Prop := ∃ A1 n1 c1 A2 n2 c2, e = .returned (.tuple #[.slice A1 n1 c1, .slice A2 n2 c2, .int .i64 E]) ∧ Row .u8 w' w'.heap.size A1 n1 b ∧ Row .i64 w' w'.heap.size A2 n2 t ∧ Below w.heap.size w w'
theorem row_nil {k : IntKind} {w : World} {B : Nat} : Row k w B none 0 [] := ⟨rfl, by simp, fun h => absurd h (Nat.lt_irrefl 0)⟩
theorem get_no (A : Option Addr) (n c : Nat) (xs : List Slv) (ss : List Slo) (k : Int) (w : World) (hz : Rw fS 3 w w.heap.size A n xs) (hs : Sls w w.heap.size xs ss) (hd : deadAt ss k) :
    Calls Try.prog 22 #[.slice A n c, .int .i64 k] w (TGet [] [] 3 w) := by
  have hcall := slot_no A n c xs ss w _ _ hz hs k hd
  clear hz hs hd
  go_enter Try.func22, Try.ntmps22
  go_wp2_with (go_at_call 40; refine hcall.mono ?_; rintro e w1 ⟨rfl, rfl⟩)
  go_ret3
  exact ⟨none, 0, 0, none, 0, 0, rfl, row_nil, row_nil, Below.refl _ _⟩
set_option maxHeartbeats 2000000 in
theorem get_yes (A : Option Addr) (n c : Nat) (xs : List Slv) (ss : List Slo) (k : Int) (w : World) (hz : Rw fS 3 w w.heap.size A n xs) (hs : Sls w w.heap.size xs ss) (s : Slo) (hl : liveAt ss k s) :
    Calls Try.prog 22 #[.slice A n c, .int .i64 k] w (TGet s.b s.t 0 w) := by
  have hcall := slot_yes A n c xs ss w _ _ hz hs k s hl
  obtain ⟨h0, h1, h2⟩ := hl
  obtain ⟨i, rfl⟩ := Int.eq_ofNat_of_zero_le h0
  rw [Int.toNat_natCast] at h1
  have hi : i < n := by have := (List.getElem?_eq_some_iff.1 h1).1; rw [← hz.1, hs.1]; exact this
  obtain ⟨b, off, rfl, hb⟩ := hz.open (by omega)
  obtain ⟨x, s', hx, hs', hr⟩ := hs.get (i := i) (by rw [hz.1]; exact hi)
  rw [h1] at hs'; cases hs'
  have c1 : w.cell? ⟨b, off + i * 3 + 1, none⟩ = some (.slice x.bA x.bn x.bc) := hz.at_ fS_len hx 1 _ rfl
  have c2 : w.cell? ⟨b, off + i * 3 + 2, none⟩ = some (.slice x.tA x.tn x.tc) := hz.at_ fS_len hx 2 _ rfl
  have hin : (i : Int) < (n : Int) := by omega
  have HR := Lib.hid hr
  clear h1 hx hr hz hs h0 h2
  have gc : ∀ (e : Nat) (os : Array Obj) (b o : Nat), b < w.heap.size → (grow (redrawn w e) os).cell? ⟨b, o, none⟩ = w.cell? ⟨b, o, none⟩ := fun e os b o h => (below_regrown _ e os).cell (p := ⟨b, o, none⟩) h
  go_enter Try.func22, Try.ntmps22
  go_wp2_with fail
  refine hcall.mono ?_
  clear hcall
  rintro e w1 ⟨rfl, rfl⟩
  go_wp2_with fail
  refine wp_region_rel1 [Sp.rown 5 .u8 x.bn s.b, Sp.rown 11 .i64 x.tn s.t] (by kernel_rfl) (by kernel_rfl) ?_
  intro V hV
  obtain ⟨A5, c5, e5⟩ : ∃ A c, V 5 = .slice A x.bn c := hV 5
  obtain ⟨A11, c11, e11⟩ : ∃ A c, V 11 = .slice A x.tn c := hV 11
  repeat (refine rel_quiet rfl rfl ?_; go_big_quiet_step (fail); refine wpQuiet_nil ?_)
  refine rel_special (Sp.rown 5 .u8 x.bn s.b) (by kernel_rfl) rfl (fun w' hb hf => ?_) ?_
  · refine becomes_call (f := 38) (args := #[.slice x.bA x.bn x.bc]) ?_ ((clone_any x.bA x.bn x.bc s.b w' _ (HR.out.b.on hb (Nat.le_refl _)) (Nat.le_refl _) (by have := HR.out.bn; omega)).mono ?_)
    · go_simp
    · rintro e w'' ⟨A', c', rfl, ho, hb'⟩
      exact ⟨_, rfl, hb', ⟨_, _, rfl⟩, _, _, rfl, ho.row⟩
  go_big_quiet_step (fail)
  refine wpQuiet_nil ?_
  repeat (refine rel_quiet rfl rfl ?_; go_big_quiet_step (fail); refine wpQuiet_nil ?_)
  refine rel_special (Sp.rown 11 .i64 x.tn s.t) (by kernel_rfl) rfl (fun w' hb hf => ?_) ?_
  · refine becomes_call (f := 39) (args := #[.slice x.tA x.tn x.tc]) ?_ ((cloneI_any x.tA x.tn x.tc s.t w' _ (HR.out.t.on hb (Nat.le_refl _)) (Nat.le_refl _) (by have := HR.out.tn; omega)).mono ?_)
    · go_simp
    · rintro e w'' ⟨A', c', rfl, ho, hb'⟩
      exact ⟨_, rfl, hb', ⟨_, _, rfl⟩, _, _, rfl, ho.row⟩
  go_big_quiet_step (fail)
  refine wpQuiet_nil ?_
  repeat (refine rel_quiet rfl rfl ?_; go_big_quiet_step (fail); refine wpQuiet_nil ?_)
  intro w3 hb3 hf
  obtain ⟨_, _, q11, r11⟩ : ∃ A c, V 11 = .slice A x.tn c ∧ Row .i64 w3 w3.heap.size A x.tn s.t := hf _ (List.Mem.head _)
  obtain ⟨_, _, q5, r5⟩ : ∃ A c, V 5 = .slice A x.bn c ∧ Row .u8 w3 w3.heap.size A x.bn s.b := hf _ (List.Mem.tail _ (List.Mem.head _))
  rw [e11] at q11
  rw [e5] at q5
  cases q11
  cases q5
  have R11 := Lib.hid r11
  have R5 := Lib.hid r5
  have HB3 := Lib.hid hb3
  clear hf r11 r5 gc c1 c2 hb3
  rw [e5, e11]
  go_wp2
  go_ret3
  exact ⟨_, _, _, _, _, _, rfl, R5.out, R11.out, HB3.out⟩

set_option maxHeartbeats 1000000 in
theorem same1_any (x y : Slv) (s : Slo) (w : World) (B : Nat) (hx : SlR w B x s) (hy : SlR w B y s) (hB : B ≤ w.heap.size) :
    Calls Try.prog 42 #[.agg #[.int .i64 x.r, .slice x.bA x.bn x.bc, .slice x.tA x.tn x.tc], .agg #[.int .i64 y.r, .slice y.bA y.bn y.bc, .slice y.tA y.tn y.tc]] w fun e w' => e = .returned (.bool true) ∧ Below w.heap.size w w' := by
  have hr1 := hx.r
  have hr2 := hy.r
  have hbn1 := hx.b.1
  have hbn2 := hy.b.1
  have htn1 := hx.t.1
  have htn2 := hy.t.1
  have hW : Below w.heap.size w ((w.alloc (.cells #[.int .i64 x.r, .slice x.bA x.bn x.bc, .slice x.tA x.tn x.tc] 52)).alloc (.cells #[.int .i64 y.r, .slice y.bA y.bn y.bc, .slice y.tA y.tn y.tc] 52)) := ((Below.refl w.heap.size w).alloc (Nat.le_refl _) _).alloc (by simp) _
  have q1 := conv_row (c := x.bc) (hx.b.below (hW.mono hB))
  have q2 := conv_row (c := y.bc) (hy.b.below (hW.mono hB))
  have hxn := hx.tn
  have HE := Lib.hid (fun W (hb : Below w.heap.size w W) => equalI_same x.tA y.tA x.tn x.tc y.tc s.t W B (hx.t.below (hb.mono hB)) (by have := hy.t.below (hb.mono hB); rw [show x.tn = y.tn by omega]; exact this) (by omega))
  have HW := Lib.hid hW
  have hrr : x.r = y.r := by rw [hr1, hr2]
  have htt : x.tn = y.tn := by omega
  clear hx hy hW hr1 hr2 hbn1 hbn2 htn1 htn2
  generalize strOfNums s.b = str at *
  obtain ⟨xr, xbA, xbn, xbc, xtA, xtn, xtc⟩ := x
  obtain ⟨yr, ybA, ybn, ybc, ytA, ytn, ytc⟩ := y
  simp only at hrr htt hxn
  subst hrr htt
  simp only at q1 q2 HE HW
  go_enter Try.func42, Try.ntmps42
  go_wp2_with fail
  refine (HE.out _ HW.out).mono ?_
  rintro e w2 ⟨rfl, hb2⟩
  simp only [World.size_alloc] at hb2
  clear q1 q2
  go_wp2
  go_ret
  exact ⟨rfl, HW.out.trans (hb2.mono (by omega))⟩

set_option maxHeartbeats 1000000 in
theorem equalFunc_same (A1 A2 : Option Addr) (n1 c1 n2 c2 : Nat) (xs ys : List Slv) (ss : List Slo) (w : World) (B : Nat) (h1 : Rw fS 3 w B A1 n1 xs) (h2 : Rw fS 3 w B A2 n2 ys) (s1 : Sls w B xs ss) (s2 : Sls w B ys ss) (hB : B ≤ w.heap.size) (m1 : n1 ≤ 140737488355328) :
    Calls Try.prog 41 #[.slice A1 n1 c1, .slice A2 n2 c2, .func (.func 42) #[] #[]] w fun e w' => e = .returned (.bool true) ∧ Below w.heap.size w w' := by
  have eg := enters_of (P := Try.prog) Try.func42 (by kernel_rfl) rfl
  have l1 := h1.1
  have l2 := h2.1
  obtain rfl : n1 = n2 := by rw [← l1, ← l2, s1.1, s2.1]
  have H1 := Lib.hid h1
  have H2 := Lib.hid h2
  have S1 := Lib.hid s1
  have S2 := Lib.hid s2
  have L1 := Lib.hid l1
  have L2 := Lib.hid l2
  clear h1 h2 s1 s2 l1 l2
  have HA : Hid (0 < n1 → ∃ b1 o1 b2 o2, A1 = some ⟨b1, o1, none⟩ ∧ A2 = some ⟨b2, o2, none⟩) := Lib.hid (fun h => by
    obtain ⟨b1, o1, e1, _⟩ := H1.out.open h
    obtain ⟨b2, o2, e2, _⟩ := H2.out.open h
    exact ⟨b1, o1, b2, o2, e1, e2⟩)
  have hne : ((n1 : Int) != n1) = false := by simp
  go_enter Try.func41, Try.ntmps41
  go_wp2
  go_loopw [17] (fun i wr => ∃ k : Nat, k ≤ n1 ∧ i = .int .i64 k ∧ Hid (Below w.heap.size w wr)) (fun i _ => n1 - (intOf i).toNat)
  case atStart => exact ⟨0, by omega, rfl, Lib.hid (Below.refl _ _)⟩
  case round =>
    obtain ⟨k, hk, rfl, HB⟩ := hrel
    by_cases hlt : k < n1
    · obtain ⟨b1, o1, b2, o2, e1, e2⟩ := HA.out (by omega)
      subst e1 e2
      obtain ⟨x, s, hx, hs, hr⟩ := S1.out.get (i := k) (by rw [L1.out]; exact hlt)
      obtain ⟨y, s', hy, hs', hr'⟩ := S2.out.get (i := k) (by rw [L2.out]; exact hlt)
      rw [hs] at hs'; cases hs'
      have cx := (H1.out.below (HB.out.mono hB)).at_ fS_len hx
      have cy := (H2.out.below (HB.out.mono hB)).at_ fS_len hy
      have x0 : wr.cell? ⟨b1, o1 + k * 3, none⟩ = some (.int .i64 x.r) := cx 0 _ rfl
      have x1 : wr.cell? ⟨b1, o1 + k * 3 + 1, none⟩ = some (.slice x.bA x.bn x.bc) := cx 1 _ rfl
      have x2 : wr.cell? ⟨b1, o1 + k * 3 + 2, none⟩ = some (.slice x.tA x.tn x.tc) := cx 2 _ rfl
      have y0 : wr.cell? ⟨b2, o2 + k * 3, none⟩ = some (.int .i64 y.r) := cy 0 _ rfl
      have y1 : wr.cell? ⟨b2, o2 + k * 3 + 1, none⟩ = some (.slice y.bA y.bn y.bc) := cy 1 _ rfl
      have y2 : wr.cell? ⟨b2, o2 + k * 3 + 2, none⟩ = some (.slice y.tA y.tn y.tc) := cy 2 _ rfl
      have hl2 : b2 < wr.heap.size := lt_of_cell y0
      have HBR := Lib.hid (HB.out.mono hB)
      have HX := Lib.hid hr
      have HY := Lib.hid hr'
      clear hx hy hs cx cy hr hr'
      have hsz := HB.out.size
      have hW : Below wr.heap.size wr ((wr.alloc (.cells #[.int .i64 x.r, .slice x.bA x.bn x.bc, .slice x.tA x.tn x.tc] 52)).alloc (.cells #[.int .i64 y.r, .slice y.bA y.bn y.bc, .slice y.tA y.tn y.tc] 52)) := ((Below.refl wr.heap.size wr).alloc (Nat.le_refl _) _).alloc (by simp) _
      have HW := Lib.hid hW
      clear hW
      have hcall := same1_any x y s ((wr.alloc (.cells #[.int .i64 x.r, .slice x.bA x.bn x.bc, .slice x.tA x.tn x.tc] 52)).alloc (.cells #[.int .i64 y.r, .slice y.bA y.bn y.bc, .slice y.tA y.tn y.tc] 52)) B (HX.out.below (HBR.out.trans (HW.out.mono (by omega)))) (HY.out.below (HBR.out.trans (HW.out.mono (by omega)))) (by simp; omega)
      go_wp2_with fail
      refine hcall.mono ?_
      clear hcall
      rintro e w2 ⟨rfl, hb2⟩
      simp only [World.size_alloc] at hb2
      clear x0 x1 x2 y0 y1 y2
      go_wp2
      go_roundw
      case rel => exact ⟨k + 1, by omega, by go_num, Lib.hid (HB.out.trans ((HW.out.trans (hb2.mono (by omega))).mono hsz))⟩
      case measure => simp [intOf]; omega
    · go_wp2
      go_ret
      exact ⟨rfl, HB.out⟩
theorem same_yes (A1 A2 : Option Addr) (n1 c1 n2 c2 : Nat) (xs ys : List Slv) (ss : List Slo) (w : World) (B : Nat) (h1 : Rw fS 3 w B A1 n1 xs) (h2 : Rw fS 3 w B A2 n2 ys) (s1 : Sls w B xs ss) (s2 : Sls w B ys ss) (hB : B ≤ w.heap.size) (m1 : n1 ≤ 140737488355328) :
    Calls Try.prog 24 #[.slice A1 n1 c1, .slice A2 n2 c2] w fun e w' => e = .returned (.bool true) ∧ Below w.heap.size w w' := by
  have hcall := equalFunc_same A1 A2 n1 c1 n2 c2 xs ys ss w B h1 h2 s1 s2 hB m1
  clear h1 h2 s1 s2
  go_enter Try.func24, Try.ntmps24
  go_wp2_with fail
  refine hcall.mono ?_
  rintro e w2 ⟨rfl, hb2⟩
  clear hcall
  go_wp2
  go_ret
  exact ⟨rfl, hb2⟩
end Go.Proofs.Ytfhcjainhpjdfaa
