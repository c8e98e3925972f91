/- The walks of the laws on keys. -/
import Derived.Test.YtokpodmefnmmcaaKeysJ
import Derived.Test.YtokpodmefnmmcaaKeysE
import Derived.Test.YtokpodmefnmmcaaOpenK
import Derived.Test.YtokpodmefnmmcaaStep
namespace Go.Proofs.Ytokpodmefnmmcaa
open Go.RowKit
attribute [local go_sem] Key4.v run_eq_keys

set_option maxHeartbeats 4000000 in
theorem keysTell_walk (K : Key4) (_ : K.fits) (k : Int) (_ : I64 k) (d : Int) (_ : I64 d) (w : World) :
    Calls Try.prog 5 #[K.v, .int .i64 k, .int .i64 d] w fun e w' => e = .returned (.bool true) ∧ Below w.heap.size w w' := by
  simp only [Key4.v]
  go_enter Try.func5, Try.ntmps5
  go_wp2_with (first
        | (go_at_call 20; refine (keysNew_any K _).mono ?_; rintro e w1 ⟨rfl, hb1⟩; obtain ⟨hc1, hn1, hz1⟩ := step1 hb1)
        | (go_at_call 21; refine (jnew_any K _).mono ?_; rintro e w2 ⟨rfl, hb2⟩; obtain ⟨hc2, hn2, hz2⟩ := step1 hb2; have z2_0 : w.heap.size < w2.heap.size := (by omega))
        | (go_at_call 22; refine (keysFree_any K k _).mono ?_; rintro e w3 ⟨rfl, hb3⟩; obtain ⟨hc3, hn3, hz3⟩ := step1 hb3; have z3_0 : w.heap.size < w3.heap.size := (by omega); have z3_1 : w1.heap.size < w3.heap.size := (by omega))
        | (go_at_call 23; (with_reducible refine (jfree_any K k _).mono ?_); rintro e w4 ⟨rfl, hb4⟩; obtain ⟨hc4, hn4, hz4⟩ := step1 hb4; have z4_0 : w.heap.size < w4.heap.size := (by omega); have z4_1 : w1.heap.size < w4.heap.size := (by omega); have z4_2 : w2.heap.size < w4.heap.size := (by omega))
        | (go_at_call 24; refine (keysSet_any K k d _).mono ?_; rintro e w5 ⟨rfl, hb5⟩; obtain ⟨hc5, hn5, hz5⟩ := step1 hb5; have z5_0 : w.heap.size < w5.heap.size := (by omega); have z5_1 : w1.heap.size < w5.heap.size := (by omega); have z5_2 : w2.heap.size < w5.heap.size := (by omega); have z5_3 : w3.heap.size < w5.heap.size := (by omega))
        | (go_at_call 23; (with_reducible refine (jset_any K k d _).mono ?_); rintro e w6 ⟨rfl, hb6⟩; obtain ⟨hc6, hn6, hz6⟩ := step1 hb6; have z6_0 : w.heap.size < w6.heap.size := (by omega); have z6_1 : w1.heap.size < w6.heap.size := (by omega); have z6_2 : w2.heap.size < w6.heap.size := (by omega); have z6_3 : w3.heap.size < w6.heap.size := (by omega); have z6_4 : w4.heap.size < w6.heap.size := (by omega))
        | (go_at_call 25; refine (keysFirst_any _).mono ?_; rintro e w7 ⟨rfl, hb7⟩; obtain ⟨hc7, hn7, hz7⟩ := step1 hb7; have z7_0 : w.heap.size < w7.heap.size := (by omega); have z7_1 : w1.heap.size < w7.heap.size := (by omega); have z7_2 : w2.heap.size < w7.heap.size := (by omega); have z7_3 : w3.heap.size < w7.heap.size := (by omega); have z7_4 : w4.heap.size < w7.heap.size := (by omega); have z7_5 : w5.heap.size < w7.heap.size := (by omega)))
  go_ret
  exact ⟨rfl, (by repeat' first | exact Below.refl _ _ | refine Below.alloc ?_ ?_ _ | refine below_thru ?_ (by assumption) ?_ | omega | (simp; done) | (simp; omega))⟩

end Go.Proofs.Ytokpodmefnmmcaa
