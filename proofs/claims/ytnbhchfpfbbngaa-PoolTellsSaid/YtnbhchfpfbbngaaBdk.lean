/- alive2; BuddyBack and BuddyOrder: their walks. -/
import Derived.Test.YtnbhchfpfbbngaaBdg
namespace Go.Proofs.Ytnbhchfpfbbngaa
open Go.ChangeShapes Go.WideShapes Go.ChangeAt Go.RowKit Go.Joins Go.Sort
set_option linter.unusedVariables false
/-- A value that is a slice of these blocks, of no more than can be. -/
def Bv (w : World) (v : Value) (xs : List Blk) : Prop := ∃ A n c, v = .slice A n c ∧ Rw fB 2 w w.heap.size A n xs ∧ n ≤ 140737488355328
theorem Bv.below {w w' : World} {v : Value} {xs : List Blk} (h : Bv w v xs) (hb : Below w.heap.size w w') : Bv w' v xs := by
  obtain ⟨A, n, c, e, h, hn⟩ := h
  exact ⟨A, n, c, e, h.on hb (Nat.le_refl _), hn⟩
theorem Bv.of {w : World} {base : Nat} {v : Value} {xs : List Blk} (h : Os fB 2 30 w base v xs) (hn : xs.length ≤ 140737488355328) : Bv w v xs := by
  obtain ⟨A, c, e, _, _, hr⟩ := h.row fB_len
  exact ⟨A, _, c, e, hr, hn⟩
theorem okB_fits {b : Blk} (h : okB b = true) : b.fits := by
  obtain ⟨h1, h2, _, h4⟩ := okB_cases h
  have := szO_pos b.o
  unfold Blk.fits I64
  omega
theorem rp_fits {l : List Blk} (h : Rp l) : ∀ x ∈ l, x.fits := fun x hx => okB_fits (h.1 x hx)
theorem takeS_rp (l : List Blk) (o : Int) : Rp (takeS l o).1 := by
  have hn : Rp [] := ⟨by simp, List.Pairwise.nil, by simp [noBud]⟩
  unfold takeS
  split
  · split
    · split
      · exact hn
      · exact canon_rp _
    · exact hn
  · exact hn
theorem giveS_rp (l : List Blk) (b : Blk) : Rp (giveS l b).1 := by
  have hn : Rp [] := ⟨by simp, List.Pairwise.nil, by simp [noBud]⟩
  unfold giveS
  split
  · split
    · split
      · exact hn
      · exact canon_rp _
    · exact hn
  · exact hn
theorem Bv.gT {w w' : World} {r : List Blk × Int × Int} {e : Ending} (hr : Rp r.1) (h : GivesT w r e w') : ∃ v, e = .returned (.tuple #[v, .int .i64 r.2.1, .int .i64 r.2.2]) ∧ Bv w' v r.1 ∧ Below w.heap.size w w' := by
  obtain ⟨v, h1, h2, h3⟩ := h
  exact ⟨v, h1, Bv.of h2 (by have := rp_len hr; omega), h3⟩
theorem Bv.gG {w w' : World} {r : List Blk × Int} {e : Ending} (hr : Rp r.1) (h : GivesG w r e w') : ∃ v, e = .returned (.tuple #[v, .int .i64 r.2]) ∧ Bv w' v r.1 ∧ Below w.heap.size w w' := by
  obtain ⟨v, h1, h2, h3⟩ := h
  exact ⟨v, h1, Bv.of h2 (by have := rp_len hr; omega), h3⟩
theorem take_v {w : World} {v : Value} {xs : List Blk} (h : Bv w v xs) (hf : ∀ x ∈ xs, x.fits) (o : Int) (ho : I64 o) : Calls Try.prog 11 #[v, .int .i64 o] w fun e w' => ∃ u, e = .returned (.tuple #[u, .int .i64 (takeS xs o).2.1, .int .i64 (takeS xs o).2.2]) ∧ Bv w' u (takeS xs o).1 ∧ Below w.heap.size w w' := by
  obtain ⟨A, n, c, rfl, hr, hn⟩ := h
  exact (take_any A n c xs o ho w _ hr hf (Nat.le_refl _) hn).mono fun e w' h => Bv.gT (takeS_rp _ _) h
theorem give_v {w : World} {v : Value} {xs : List Blk} (h : Bv w v xs) (hf : ∀ x ∈ xs, x.fits) (b : Blk) (hb : b.fits) : Calls Try.prog 12 #[v, .agg #[.int .i64 b.a, .int .i64 b.o]] w fun e w' => ∃ u, e = .returned (.tuple #[u, .int .i64 (giveS xs b).2]) ∧ Bv w' u (giveS xs b).1 ∧ Below w.heap.size w w' := by
  obtain ⟨A, n, c, rfl, hr, hn⟩ := h
  exact (give_any A n c xs b hb w _ hr hf (Nat.le_refl _) hn).mono fun e w' h => Bv.gG (giveS_rp _ _) h
theorem right_v {w : World} {v : Value} {xs : List Blk} (h : Bv w v xs) (hf : ∀ x ∈ xs, x.fits) : Calls Try.prog 14 #[v] w fun e w' => e = .returned (.bool (rightB xs)) ∧ Below w.heap.size w w' := by
  obtain ⟨A, n, c, rfl, hr, hn⟩ := h
  exact right_any A n c xs w _ hr hf (Nat.le_refl _) hn
theorem equal_v {w : World} {v u : Value} {xs ys : List Blk} (h : Bv w v xs) (h2 : Bv w u ys) : Calls Try.prog 13 #[v, u] w fun e w' => e = .returned (.bool (sameL eqB xs ys)) ∧ Below w.heap.size w w' := by
  obtain ⟨A, n, c, rfl, hr, hn⟩ := h
  obtain ⟨A2, n2, c2, rfl, hr2, hn2⟩ := h2
  exact equal_B A A2 n c n2 c2 xs ys w _ hr hr2 (Nat.le_refl _) hn hn2
theorem new_v (w : World) : Calls Try.prog 16 #[] w fun e w' => ∃ v, e = .returned v ∧ Bv w' v newL ∧ Below w.heap.size w w' :=
  (bnew_own w).mono fun e w' ⟨v, h1, h2, h3⟩ => ⟨v, h1, Bv.of h2 (by decide), h3⟩
theorem eqL_refl (l : List Blk) : sameL eqB l l = true := sameL_refl (eq := eqB) (fun a => eqB_iff.2 rfl) l
def l2 : List Blk := [⟨16, 4⟩, ⟨32, 5⟩]
theorem take2 : takeS newL 4 = (l2, 0, 0) := by kernel_rfl
theorem give2 : giveS l2 ⟨0, 4⟩ = (newL, 0) := by kernel_rfl
theorem right2 : rightB l2 = true := by kernel_rfl
theorem l2_made (w : World) : Bv (w.alloc (.cells #[.int .i64 16, .int .i64 4, .int .i64 32, .int .i64 5] 30)) (.slice (some ⟨w.heap.size, 0, none⟩) 2 2) l2 :=
  Bv.of (base := w.heap.size) (Os.mk (xs := l2) (c := 2) (cur := #[.int .i64 16, .int .i64 4, .int .i64 32, .int .i64 5]) (Nat.le_refl _) (by show (w.heap.push _)[w.heap.size]? = _; exact Array.getElem?_push_size) (by decide) (by decide) rfl fB_len (by simp [l2, fB])) (by decide)
set_option maxHeartbeats 4000000 in
set_option maxRecDepth 100000 in
theorem alive2_any (w : World) : Calls Try.prog 10 #[] w fun e w' => e = .returned (.bool true) ∧ Below w.heap.size w w' := by
  have HN := Lib.hid new_v
  have HT := Lib.hid (fun (w : World) (v : Value) (h : Bv w v newL) => (by
    have := take_v h (rp_fits new_rp) 4 (by unfold I64; omega)
    rw [take2] at this; exact this : Calls Try.prog 11 #[v, .int .i64 4] w fun e w' => ∃ u, e = .returned (.tuple #[u, .int .i64 0, .int .i64 0]) ∧ Bv w' u l2 ∧ Below w.heap.size w w'))
  have HG := Lib.hid (fun (w : World) (v : Value) (h : Bv w v l2) => (by
    have := give_v h (rp_fits (right_rp right2)) ⟨0, 4⟩ (okB_fits (by decide))
    rw [give2] at this; exact this : Calls Try.prog 12 #[v, .agg #[.int .i64 0, .int .i64 4]] w fun e w' => ∃ u, e = .returned (.tuple #[u, .int .i64 0]) ∧ Bv w' u newL ∧ Below w.heap.size w w'))
  have HE := Lib.hid (fun (w : World) (v u : Value) (xs : List Blk) (h : Bv w v xs) (h2 : Bv w u xs) => (by
    have := equal_v h h2
    rw [eqL_refl] at this; exact this : Calls Try.prog 13 #[v, u] w fun e w' => e = .returned (.bool true) ∧ Below w.heap.size w w'))
  have HR := Lib.hid (fun (w : World) (v : Value) (h : Bv w v l2) => (by
    have := right_v h (rp_fits (right_rp right2))
    rw [right2] at this; exact this : Calls Try.prog 14 #[v] w fun e w' => e = .returned (.bool true) ∧ Below w.heap.size w w'))
  have HM := Lib.hid l2_made
  go_enter Try.func10, Try.ntmps10
  go_wp2_with (first
    | (go_at_call 14
       refine (HR.out w6 v2 ((K3.out.below (K4.out.trans (K5.out.mono K4.out.size))).below K6.out)).mono ?_
       rintro e w7 ⟨rfl, hb7⟩
       have K7 := Lib.hid hb7
       clear hb7)
    | (go_at_call 13
       refine (HE.out w5 v3 v5 newL (B3.out.below (K4.out.trans (K5.out.mono K4.out.size))) B5.out).mono ?_
       rintro e w6 ⟨rfl, hb6⟩
       have K6 := Lib.hid hb6
       clear hb6)
    | (go_at_call 16
       refine (HN.out w4).mono ?_
       rintro e w5 ⟨v5, rfl, hv5, hb5⟩
       have B5 := Lib.hid hv5
       have K5 := Lib.hid hb5
       clear hv5 hb5)
    | (go_at_call 13
       refine (HE.out _ v2 _ l2 (K3.out.below ((Below.refl _ _).alloc (Nat.le_refl _) _)) (HM.out w3)).mono ?_
       rintro e w4 ⟨rfl, hb4⟩
       have K4 : Hid (Below w3.heap.size w3 w4) := Lib.hid (((Below.refl _ _).alloc (Nat.le_refl _) _).trans (hb4.mono (by simp)))
       clear hb4)
    | (go_at_call 12
       refine (HG.out w2 v2 B2.out).mono ?_
       rintro e w3 ⟨v3, rfl, hv3, hb3⟩
       have B3 := Lib.hid hv3
       have K3 := Lib.hid (B2.out.below hb3)
       have KB3 := Lib.hid (KB2.out.trans (hb3.mono KB2.out.size))
       clear hv3 hb3)
    | (go_at_call 11
       refine (HT.out w1 v1 B1.out).mono ?_
       rintro e w2 ⟨v2, rfl, hv2, hb2⟩
       have B2 := Lib.hid hv2
       have KB2 := Lib.hid (KB1.out.trans (hb2.mono KB1.out.size))
       clear hv2 hb2)
    | (go_at_call 16
       refine (HN.out w).mono ?_
       rintro e w1 ⟨v1, rfl, hv1, hb1⟩
       have B1 := Lib.hid hv1
       have KB1 := Lib.hid hb1
       clear hv1 hb1))
  go_ret
  exact ⟨rfl, KB3.out.trans ((K4.out.trans ((K5.out.trans ((K6.out.trans (K7.out.mono K6.out.size)).mono K5.out.size)).mono K4.out.size)).mono KB3.out.size)⟩
/-! frames -/
theorem sumO_take {xs : List Blk} {k : Nat} {x : Blk} (h : xs[k]? = some x) : sumO (xs.take (k + 1)) = sumO (xs.take k) + szO x.o := by
  obtain ⟨hi, rfl⟩ := List.getElem?_eq_some_iff.1 h
  rw [List.take_succ_eq_append_getElem hi]
  unfold sumO
  rw [List.map_append, List.sum_append]
  simp
theorem sumO_nonneg : ∀ l : List Blk, 0 ≤ sumO l
  | [] => by simp [sumO]
  | x :: l => by
    have := sumO_nonneg l
    have := szO_pos x.o
    simp only [sumO, List.map_cons, List.sum_cons] at *
    omega
theorem sumO_le {xs : List Blk} (h : ∀ x ∈ xs, okB x = true) : ∀ k, sumO (xs.take k) ≤ 64 * k
  | 0 => by simp [sumO]
  | k + 1 => by
    have := sumO_le h k
    cases hx : xs[k]? with
    | none =>
      rw [List.take_of_length_le (by have := List.getElem?_eq_none_iff.1 hx; omega)] at this ⊢
      omega
    | some x =>
      rw [sumO_take hx]
      obtain ⟨h1, h2, _⟩ := okB_cases (h x (List.mem_of_getElem? hx))
      omega
theorem shl_one {o : Int} (h0 : 0 ≤ o) (h6 : o ≤ 6) (w : World) : (Op.shift .shl .i64 1 .i64 o).run Try.prog w = .ok (.int .i64 (szO o)) w := by
  rcases szO_lit h0 h6 with ⟨rfl, e⟩ | ⟨rfl, e⟩ | ⟨rfl, e⟩ | ⟨rfl, e⟩ | ⟨rfl, e⟩ | ⟨rfl, e⟩ | ⟨rfl, e⟩ <;> rw [e] <;> simp [go_sem] <;> rfl
set_option maxHeartbeats 4000000 in
theorem frames_v {w : World} {v : Value} {xs : List Blk} (h : Bv w v xs) (hok : ∀ x ∈ xs, okB x = true) (hl : xs.length ≤ 64) : Calls Try.prog 15 #[v] w fun e w' => e = .returned (.int .i64 (sumO xs)) ∧ Below w.heap.size w w' := by
  obtain ⟨A, n, c, rfl, hz, hn⟩ := h
  have hln := hz.1
  have HX := Lib.hid (fun (i : Nat) (hi : i < n) => (⟨xs[i]'(by omega), List.getElem?_eq_getElem _⟩ : ∃ x, xs[i]? = some x))
  have HZ := Lib.hid hz
  have HOK := Lib.hid hok
  have HST := Lib.hid (fun (k : Nat) (x : Blk) (h : xs[k]? = some x) => sumO_take h)
  have HSL := Lib.hid (sumO_le hok)
  have HSN := Lib.hid (fun k => sumO_nonneg (xs.take k))
  have HS0 : Hid (sumO (xs.take 0) = 0) := Lib.hid rfl
  have HSA : Hid (sumO (xs.take n) = sumO xs) := Lib.hid (by rw [List.take_of_length_le (by omega)])
  have HA : Hid (0 < n → ∃ b off, A = some ⟨b, off, none⟩ ∧ b < w.heap.size) := Lib.hid (fun h => HZ.out.open h)
  rw [hln] at hl
  clear hz hln hok
  obtain ⟨sf, hsf⟩ : ∃ f : Nat → Int, f = fun k => sumO (xs.take k) := ⟨_, rfl⟩
  have FST : Hid (∀ k x, xs[k]? = some x → sf (k + 1) = sf k + szO x.o) := Lib.hid (by rw [hsf]; exact HST.out)
  have FSL : Hid (∀ k : Nat, 0 ≤ sf k ∧ sf k ≤ 64 * k) := Lib.hid (by rw [hsf]; exact fun k => ⟨HSN.out k, HSL.out k⟩)
  have FS0 : Hid (sf 0 = 0) := Lib.hid (by rw [hsf]; exact HS0.out)
  have FSA : Hid (sf n = sumO xs) := Lib.hid (by rw [hsf]; exact HSA.out)
  clear hsf HST HSL HSN HS0 HSA
  generalize sumO xs = res at *
  go_enter Try.func15, Try.ntmps15
  go_wp2
  go_loopw [3, 8] (fun v3 i wr => ∃ k : Nat, k ≤ n ∧ i = .int .i64 k ∧ v3 = .int .i64 (sf k) ∧ Hid (Below w.heap.size w wr)) (fun _ i _ => n - (intOf i).toNat)
  case atStart => exact ⟨0, by omega, rfl, by rw [FS0.out], Lib.hid (Below.refl _ _)⟩
  case round =>
    obtain ⟨k, hk, rfl, rfl, HB⟩ := hrel
    have hsz := HB.out.size
    by_cases hlt : k < n
    · obtain ⟨x, hx⟩ := HX.out k hlt
      obtain ⟨b, off, hAe, hb⟩ := HA.out (by omega)
      subst hAe
      have hcs := (HZ.out.below HB.out).at_ fB_len hx
      have xc0 : wr.cell? ⟨b, off + k * 2, none⟩ = some (.int .i64 x.a) := hcs 0 _ rfl
      have xc1 : wr.cell? ⟨b, off + k * 2 + 1, none⟩ = some (.int .i64 x.o) := hcs 1 _ rfl
      obtain ⟨x1, x2, x3, x4⟩ := okB_cases (HOK.out x (List.mem_of_getElem? hx))
      have hsh := shl_one (o := x.o) (by omega) (by omega)
      obtain ⟨t1, t2⟩ := szO_le (o := x.o) (by omega) (by omega)
      have HFS := Lib.hid (FST.out k x hx)
      obtain ⟨g1, g2⟩ := FSL.out k
      have HBA := Lib.hid (HB.out.alloc hsz (.cells #[.int .i64 x.a, .int .i64 x.o] 30))
      clear hcs hx x1 x2 x3 x4
      generalize szO x.o = s at *
      generalize hsk : sf k = sk at *
      go_wp2
      go_roundw
      case rel => exact ⟨k + 1, by omega, by go_num, by rw [HFS.out], HBA⟩
      case measure => simp [intOf]; omega
    · have hkn : k = n := by omega
      subst hkn
      go_wp2
      go_ret
      exact ⟨ret_i FSA.out, HB.out⟩
end Go.Proofs.Ytnbhchfpfbbngaa
