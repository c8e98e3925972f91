/- alive12; SwapShare: its walk. -/
import Derived.Test.YtfhcjainhpjdfaaSwc
namespace Go.Proofs.Ytfhcjainhpjdfaa
open Go.ChangeShapes Go.WideShapes Go.ChangeAt Go.RowKit Go.Joins Go.Sort
set_option linter.unusedVariables false
attribute [local go_sem] Oper.quiet Oper.quietAt Oper.quietUpon
def s12 : Slo := ⟨2, List.replicate 64 0, [1, 2, 3, 4]⟩
def S12 : List Slo := (List.replicate 64 zSl).set 0 s12
theorem put12E : putE (List.replicate 64 zSl) (List.replicate 64 0) [1, 2, 3, 4] 2 = 0 := by decide
theorem put12F : (List.replicate 64 zSl).findIdx freeS = 0 := by decide
theorem put12S : putS (List.replicate 64 zSl) (List.replicate 64 0) [1, 2, 3, 4] 2 = S12 := by
  unfold putS; rw [if_pos put12E, put12F]; rfl
theorem put12N : putN (List.replicate 64 zSl) (List.replicate 64 0) [1, 2, 3, 4] 2 = 0 := by
  unfold putN; rw [if_pos put12E, put12F]
/-- A special operation that gives a slice of slots. -/
def Sp.sls (at_ n : Nat) (ss : List Slo) : Sp :=
  ⟨at_, fun v => ∃ A c, v = .slice A n c, fun v w => ∃ A c xs, v = .slice A n c ∧ Rw fS 3 w w.heap.size A n xs ∧ Sls w w.heap.size xs ss, ⟨_, none, 0, rfl⟩,
    fun _ _ _ ⟨A, c, xs, e, h, h2⟩ hb => ⟨A, c, xs, e, h.on hb (Nat.le_refl _), h2.on hb (Nat.le_refl _)⟩⟩
/-- .. with an answer of Put. -/
def Sp.put (at_ n : Nat) (ss : List Slo) : Sp :=
  ⟨at_, fun v => ∃ A c, v = .tuple #[.slice A n c, .int .i64 0, .int .i64 0], fun v w => ∃ A c xs, v = .tuple #[.slice A n c, .int .i64 0, .int .i64 0] ∧ Rw fS 3 w w.heap.size A n xs ∧ Sls w w.heap.size xs ss, ⟨_, none, 0, rfl⟩,
    fun _ _ _ ⟨A, c, xs, e, h, h2⟩ hb => ⟨A, c, xs, e, h.on hb (Nat.le_refl _), h2.on hb (Nat.le_refl _)⟩⟩
theorem made_rowu (k : Nat) (hk : k ≤ 140737488355328) (w : World) : Row .u8 (w.alloc (.cells (zcells k) 5)) (w.heap.size + 1) (some ⟨w.heap.size, 0, none⟩) k (List.replicate k 0) := by
  have := (made_own k hk w).row
  rwa [World.size_alloc] at this
theorem built4 (w : World) : Row .i64 (w.alloc (.cells #[.int .i64 1, .int .i64 2, .int .i64 3, .int .i64 4] 3)) (w.heap.size + 1) (some ⟨w.heap.size, 0, none⟩) 4 [1, 2, 3, 4] :=
  ⟨rfl, by unfold maxLen; omega, fun _ => ⟨w.heap.size, 0, rfl, Nat.lt_succ_self _, fun i hi => by
    simp only [World.cell?, World.alloc, Array.getElem?_push_size, Nat.zero_add]
    match i, hi with
    | 0, _ => rfl
    | 1, _ => rfl
    | 2, _ => rfl
    | 3, _ => rfl⟩⟩
theorem S12_len : S12.length = 64 := by simp [S12]
theorem S12_0 : S12[0]? = some s12 := rfl
set_option maxHeartbeats 2000000 in
theorem alive12_any (w : World) : Calls Try.prog 20 #[] w fun e w' => e = .returned (.bool true) ∧ Below w.heap.size w w' := by
  go_enter Try.func20, Try.ntmps20
  go_wp2_with fail
  refine wp_region_rel1 [Sp.sls 0 64 (List.replicate 64 zSl), Sp.rown 1 .u8 64 (List.replicate 64 0), Sp.rown 2 .i64 4 [1, 2, 3, 4], Sp.put 3 64 S12] (by kernel_rfl) (by kernel_rfl) ?_
  intro V hV
  obtain ⟨A0, c0, e0⟩ : ∃ A c, V 0 = .slice A 64 c := hV 0
  obtain ⟨A1, c1, e1⟩ : ∃ A c, V 1 = .slice A 64 c := hV 1
  obtain ⟨A2, c2, e2⟩ : ∃ A c, V 2 = .slice A 4 c := hV 2
  obtain ⟨A3, c3, e3⟩ : ∃ A c, V 3 = .tuple #[.slice A 64 c, .int .i64 0, .int .i64 0] := hV 3
  refine rel_special (Sp.sls 0 64 (List.replicate 64 zSl)) (by kernel_rfl) rfl (fun w' hb hf => ?_) ?_
  · refine becomes_call (f := 29) (args := #[]) ?_ ((snew_any w').mono ?_)
    · go_simp
    · rintro e w'' ⟨rfl, rfl⟩
      exact ⟨_, rfl, (Below.refl _ _).alloc (Nat.le_refl _) _, ⟨_, _, rfl⟩, _, _, _, rfl, (zS_row w').any (by simp), zS_sls _ _⟩
  go_big_quiet_step (fail)
  refine wpQuiet_nil ?_
  refine rel_special (Sp.rown 1 .u8 64 (List.replicate 64 0)) (by kernel_rfl) rfl (fun w' hb hf => ?_) ?_
  · have hm : (Instr.makeSlice 37 (.int .i64 64) (.int .i64 64)).run Try.prog w' = .ok (.slice (some ⟨w'.heap.size, 0, none⟩) 64 64) (w'.alloc (.cells (zcells 64) 5)) := make_u8 64 (by omega) w'
    refine becomes_value (v := .slice (some ⟨w'.heap.size, 0, none⟩) 64 64) (w' := w'.alloc (.cells (zcells 64) 5)) ?_ ((Below.refl _ _).alloc (Nat.le_refl _) _) ⟨⟨_, _, rfl⟩, _, _, rfl, (made_rowu 64 (by omega) w').any2 (by simp)⟩
    generalize zcells 64 = Z at *
    go_simp
  go_big_quiet_step (fail)
  refine wpQuiet_nil ?_
  refine rel_special (Sp.rown 2 .i64 4 [1, 2, 3, 4]) (by kernel_rfl) rfl (fun w' hb hf => ?_) ?_
  · refine becomes_value (v := .slice (some ⟨w'.heap.size, 0, none⟩) 4 4) (w' := w'.alloc (.cells #[.int .i64 1, .int .i64 2, .int .i64 3, .int .i64 4] 3)) ?_ ((Below.refl _ _).alloc (Nat.le_refl _) _) ⟨⟨_, _, rfl⟩, _, _, rfl, (built4 w').any2 (by simp)⟩
    go_simp
  go_big_quiet_step (fail)
  refine wpQuiet_nil ?_
  refine rel_special (Sp.put 3 64 S12) (by kernel_rfl) rfl (fun w' hb hf => ?_) ?_
  · obtain ⟨A, c, e, hr2⟩ : ∃ A c, V 2 = .slice A 4 c ∧ Row .i64 w' w'.heap.size A 4 [1, 2, 3, 4] := hf _ (List.Mem.head _) (by kernel_rfl)
    rw [e2] at e
    cases e
    obtain ⟨A, c, e, hr1⟩ : ∃ A c, V 1 = .slice A 64 c ∧ Row .u8 w' w'.heap.size A 64 (List.replicate 64 0) := hf _ (List.Mem.tail _ (List.Mem.head _)) (by kernel_rfl)
    rw [e1] at e
    cases e
    obtain ⟨A, c, xs, e, hr0, hs0⟩ : ∃ A c xs, V 0 = .slice A 64 c ∧ Rw fS 3 w' w'.heap.size A 64 xs ∧ Sls w' w'.heap.size xs (List.replicate 64 zSl) := hf _ (List.Mem.tail _ (List.Mem.tail _ (List.Mem.head _))) (by kernel_rfl)
    rw [e0] at e
    cases e
    have hp := put_any A0 64 c0 xs (List.replicate 64 zSl) A1 64 c1 (List.replicate 64 0) A2 4 c2 [1, 2, 3, 4] 2 w' hr0 hs0 hr1 hr2 (by omega)
    rw [put12E, put12N, put12S] at hp
    refine becomes_call (f := 21) (args := #[.slice A0 64 c0, .slice A1 64 c1, .slice A2 4 c2, .int .i64 2]) ?_ (hp.mono ?_)
    · go_simp
    · rintro e w'' ⟨A, n, c, _, rfl, ys, hr, hs, hb⟩
      have hn : n = 64 := by rw [← hr.1, hs.1, S12_len]
      subst hn
      exact ⟨_, rfl, hb, ⟨_, _, rfl⟩, _, _, _, rfl, hr, hs⟩
  go_big_quiet_step (fail)
  refine wpQuiet_nil ?_
  simp only [e3]
  repeat (refine rel_quiet rfl rfl ?_; go_big_quiet_step (fail); refine wpQuiet_nil ?_)
  intro w3 hb3 hf
  obtain ⟨_, _, xs, q3, r3, h3⟩ : ∃ A c xs, Value.tuple #[.slice A3 64 c3, .int .i64 0, .int .i64 0] = .tuple #[.slice A 64 c, .int .i64 0, .int .i64 0] ∧ Rw fS 3 w3 w3.heap.size A 64 xs ∧ Sls w3 w3.heap.size xs S12 := by
    have h := hf _ (List.Mem.head _)
    try rw [e3] at h
    exact h
  cases q3
  have R3 := Lib.hid r3
  have H3 := Lib.hid h3
  have HB3 := Lib.hid hb3
  clear hf r3 h3 hb3 hV
  have hl1 : liveAt S12 0 s12 := ⟨by omega, rfl, by decide⟩
  go_wp2_with fail
  refine (sdrop_any A3 64 c3 xs S12 0 w3 R3.out H3.out (by omega) 0 _ (.inr ⟨s12, hl1, rfl, rfl⟩)).mono ?_
  rintro e w4 ⟨A4, n4, c4, rfl, ys, hr4, hs4, hb4⟩
  have hl2 : liveAt (S12.set (0 : Int).toNat (bump s12 (-1))) 0 (bump s12 (-1)) := ⟨by omega, rfl, by decide⟩
  have HB4 := Lib.hid (HB3.out.trans (hb4.mono HB3.out.size))
  have HG := Lib.hid (get_yes A4 n4 c4 ys _ 0 w4 hr4 hs4 _ hl2)
  clear hr4 hs4 hb4 hl1 hl2
  go_wp2_with fail
  refine HG.out.mono ?_
  rintro e w5 ⟨A5, n5, c5, A6, n6, c6, rfl, hr5, hr6, hb5⟩
  have hn6 : n6 = 4 := by rw [← hr6.1]; rfl
  subst hn6
  have HB5 := Lib.hid (HB4.out.trans (hb5.mono HB4.out.size))
  have HR6 : Hid (Row .i64 w5 w5.heap.size A6 4 [1, 2, 3, 4]) := Lib.hid hr6
  clear hr5 hr6 hb5
  go_wp2_with fail
  have hW := (Below.refl w5.heap.size w5).alloc (Nat.le_refl _) (.cells #[.int .i64 1, .int .i64 2, .int .i64 3, .int .i64 4] 3)
  refine (equalI_same A6 (some ⟨w5.heap.size, 0, none⟩) 4 c6 4 [1, 2, 3, 4] _ (w5.heap.size + 1) ((HR6.out.below hW).any2 (by omega)) (built4 w5) (by omega)).mono ?_
  rintro e w6 ⟨rfl, hb6⟩
  simp only [World.size_alloc] at hb6
  go_wp2
  go_ret
  exact ⟨rfl, HB5.out.trans ((hW.trans (hb6.mono (by omega))).mono HB5.out.size)⟩

theorem bump_back {s : Slo} (h : 0 < s.r) : bump (bump s 1) (-1) = s := by
  have e : bump s 1 = ⟨s.r + 1, s.b, s.t⟩ := by unfold bump; rw [if_neg (by omega)]
  rw [e]
  unfold bump
  rw [if_neg (by show ¬ s.r + 1 + -1 = 0; omega)]
  cases s
  simp
  omega
set_option maxHeartbeats 2000000 in
theorem swapShare_walk {w : World} (A : Option Addr) (n c : Nat) (xs : List Slv) (hz : Rw fS 3 w w.heap.size A n xs) (hs : ∃ ss, Sls w w.heap.size xs ss) (hnc : n ≤ c) (_ : c ≤ maxLen) (hbig : c ≤ 2513169434843) (k : Int) (_ : I64 k) :
    Calls Try.prog 9 #[.slice A n c, .int .i64 k] w fun e w' => e = .returned (.bool true) ∧ Below w.heap.size w w' := by
  obtain ⟨ss, hs⟩ := hs
  have HZ := Lib.hid hz
  have HS := Lib.hid hs
  clear hz hs
  have hcase : ((deadAt ss k ∨ ∃ s, liveAt ss k s ∧ 3 < s.r) ∧ True) ∨ ∃ s, liveAt ss k s ∧ s.r ≤ 3 := by
    rcases live_or_dead ss k with ⟨s, h⟩ | h
    · by_cases h3 : 3 < s.r
      · exact .inl ⟨.inr ⟨s, h, h3⟩, trivial⟩
      · exact .inr ⟨s, h, by omega⟩
    · exact .inl ⟨.inl h, trivial⟩
  rcases hcase with ⟨hE, _⟩ | ⟨s, hl, h3⟩
  · obtain ⟨E, hE0, hE1⟩ : ∃ E : Int, (E != 0) = true ∧ ((deadAt ss k ∧ E = 3 ∧ ([] : List Slo) = []) ∨ (∃ s, liveAt ss k s ∧ ((3 < s.r ∧ E = 4 ∧ ([] : List Slo) = []) ∨ (s.r ≤ 3 ∧ E = 0 ∧ ([] : List Slo) = ss.set k.toNat (bump s 1))))) := by
      rcases hE with h | ⟨s, h, h3⟩
      · exact ⟨3, rfl, .inl ⟨h, rfl, rfl⟩⟩
      · exact ⟨4, rfl, .inr ⟨s, h, .inl ⟨h3, rfl, rfl⟩⟩⟩
    have HSH := Lib.hid (fun W hz hs => share_any A n c xs ss k W hz hs (by omega) E [] hE1)
    clear hE hE1
    go_enter Try.func9, Try.ntmps9
    go_wp2_with fail
    refine (alive12_any _).mono ?_
    rintro e w1 ⟨rfl, hb1⟩
    have HB1 := Lib.hid hb1
    clear hb1
    go_wp2_with fail
    refine (HSH.out w1 (HZ.out.on HB1.out (Nat.le_refl _)) (HS.out.on HB1.out (Nat.le_refl _))).mono ?_
    rintro e w2 ⟨A2, n2, c2, rfl, ys, hr2, hs2, hb2⟩
    have hn2 : n2 = 0 := by rw [← hr2.1, hs2.1]; rfl
    subst hn2
    have HB2 := Lib.hid (HB1.out.trans (hb2.mono HB1.out.size))
    clear hr2 hs2 hb2
    go_wp2
    go_ret
    exact ⟨rfl, HB2.out⟩
  · have hs0 : 0 < s.r := hl.2.2
    have hk0 := hl.1
    have hsk := hl.2.1
    have hkl := (List.getElem?_eq_some_iff.1 hsk).1
    have hl2 : liveAt (ss.set k.toNat (bump s 1)) k (bump s 1) := ⟨hk0, List.getElem?_set_self hkl, by unfold bump; rw [if_neg (by omega)]; show 0 < s.r + 1; omega⟩
    have hback : (ss.set k.toNat (bump s 1)).set k.toNat (bump (bump s 1) (-1)) = ss := by
      rw [bump_back hs0, List.set_set]
      have e : ss[k.toNat] = s := (List.getElem?_eq_some_iff.1 hsk).2
      rw [← e, List.set_getElem_self]
    have HL := Lib.hid hl
    have HL2 := Lib.hid hl2
    have HBK := Lib.hid hback
    have H3 := Lib.hid h3
    clear hl hl2 hback hsk hkl hs0 hk0 h3
    go_enter Try.func9, Try.ntmps9
    go_wp2_with fail
    refine (alive12_any _).mono ?_
    rintro e w1 ⟨rfl, hb1⟩
    have HB1 := Lib.hid hb1
    clear hb1
    go_wp2_with fail
    refine (share_any A n c xs ss k w1 (HZ.out.on HB1.out (Nat.le_refl _)) (HS.out.on HB1.out (Nat.le_refl _)) (by omega) 0 _ (.inr ⟨s, HL.out, .inr ⟨H3.out, rfl, rfl⟩⟩)).mono ?_
    rintro e w2 ⟨A2, n2, c2, rfl, ys, hr2, hs2, hb2⟩
    have hn2 : n2 = n := by rw [← hr2.1, hs2.1, List.length_set, ← HS.out.1, HZ.out.1]
    subst hn2
    have HB2 := Lib.hid (HB1.out.trans (hb2.mono HB1.out.size))
    have HR2 := Lib.hid hr2
    have HS2 := Lib.hid hs2
    clear hr2 hs2 hb2
    go_wp2_with fail
    refine (sdrop_any A2 n2 c2 ys _ k w2 HR2.out HS2.out (by omega) 0 _ (.inr ⟨_, HL2.out, rfl, rfl⟩)).mono ?_
    rintro e w3 ⟨A3, n3, c3, rfl, zs, hr3, hs3, hb3⟩
    rw [HBK.out] at hs3
    have HB3 := Lib.hid (HB2.out.trans (hb3.mono HB2.out.size))
    have hn3 : n3 = n2 := by rw [← hr3.1, hs3.1, ← HS.out.1, HZ.out.1]
    subst hn3
    have hcall := same_yes A3 A n3 c3 n3 c zs xs ss w3 w3.heap.size hr3 (HZ.out.on HB3.out (Nat.le_refl _)) hs3 (HS.out.on HB3.out (Nat.le_refl _)) (Nat.le_refl _) (by omega)
    clear hr3 hs3 hb3
    go_wp2_with fail
    refine hcall.mono ?_
    rintro e w4 ⟨rfl, hb4⟩
    clear hcall
    go_wp2
    go_ret
    exact ⟨rfl, HB3.out.trans (hb4.mono HB3.out.size)⟩
end Go.Proofs.Ytfhcjainhpjdfaa
