/- framewarden: VmReclaim returns true at every input. -/
import Derived.Test.YtoogfmbojlpjaaaGreatQ50
import Derived.Test.YtoogfmbojlpjaaaGreatQ42
import Derived.Test.YtoogfmbojlpjaaaGreatQ53
import Derived.Test.YtoogfmbojlpjaaaGreatQA
set_option maxRecDepth 100000
set_option maxHeartbeats 32000000
set_option linter.unusedVariables false
set_option linter.unusedSimpArgs false
namespace Go.Proofs.YtoogfmbojlpjaaaGreat
open Go.ChangeShapes Go.WideShapes Go.ChangeAt Go.RowKit Go.Joins
namespace VmReclaim
theorem own:ownKnob Tryz.prog.godebug=none:=by kernel_rfl
theorem laidOut:laidOutB Tryz.prog=true:=by kernel_rfl
theorem lifted (os:Go.Os) (started:os.Started) (H:Type) (enc:TypeId×Value->H) (F:Stop.Interp):
 ReturnsInHanded {} Tryz.checked os 7 .any ((Rows.OpenSpec.upto Rows.vmReclaimSpec).pre6 enc Tryz.prog Tryz.f7 Rows.vmReclaimUptoRow.domain false) (((Rows.OpenSpec.upto Rows.vmReclaimSpec).at F).post enc Tryz.prog Tryz.f7 false true false false):=by
 refine returnsInHanded_of_cond (C:=Tryz.checked) (s:=Rows.OpenSpec.upto Rows.vmReclaimSpec) (k:=Rows.uptoSmall) rfl own started (by kernel_rfl) Tryz.func7
  (OpenSpec.witness (enc:=enc) (C:=Tryz.checked) (s:=Rows.OpenSpec.upto Rows.vmReclaimSpec) (k:=Rows.uptoSmall) rfl false ⟨#[],#[.slice none 0 0,.slice none 0 0,.slice none 0 0],[]⟩ 8 (by kernel_rfl) (by kernel_rfl) (by kernel_rfl)
    (x:=([.nil,.nil,.nil],[],[])) (by kernel_rfl) rfl (by kernel_rfl)) ?_
 intro W base args ds gs before hval0 hW hcnd hk _;have hval:∀(j:Nat) t v,Tryz.f7.params[j]? =some t->args[j]? =some v->Value.okWide Tryz.prog W .any base t v:=hval0;have hW':=hW;obtain⟨p,q,hA0,hV,rfl,hfz,hnd⟩:=hW;have hA:DataW.TrodAll enc Tryz.prog W 0 (λ_=>true) true Tryz.f7.params.toList args.toList ds p:=hA0;rw[Tryz.params7] at hA hval;obtain⟨v0,vs0,d0,ds0,p0,q0,hargs,rfl,rfl,h0,r0⟩:=trodAll_cons hA;obtain⟨v1,vs1,d1,ds1,p1,q1,rfl,rfl,rfl,h1,r1⟩:=trodAll_cons r0;obtain⟨v2,vs2,d2,ds2,p2,q2,rfl,rfl,rfl,h2,r2⟩:=trodAll_cons r1;obtain⟨rfl,rfl,rfl⟩:=trodAll_nil r2;obtain rfl:args= #[v0,v1,v2]:=by cases args;simp_all
 obtain⟨rfl,rfl⟩:=trodVars_none hV;have k0:=h0;have lt0:∀x∈p0,x.block<W.heap.size:=by obtain⟨m,hm⟩:=k0;exact DataW.trod_lt m _ _ _ hm
 have k1:=h1;have lt1:∀x∈p1,x.block<W.heap.size:=by obtain⟨m,hm⟩:=k1;exact DataW.trod_lt m _ _ _ hm
 have k2:=h2;have lt2:∀x∈p2,x.block<W.heap.size:=by obtain⟨m,hm⟩:=k2;exact DataW.trod_lt m _ _ _ hm
 obtain⟨s0,aCg,cap0,rfl⟩:=okWide_slice Tryz.underlying22 (hval 0 22 v0 rfl rfl);obtain⟨z0,hz0,aCq,hcap0,Xa⟩:=aCP h0;obtain⟨s1,aOs,aNA,rfl⟩:=okWide_slice Tryz.underlying48 (hval 1 48 v1 rfl rfl);obtain⟨z1,hz1,aOu,hcap1,aOa⟩:=V6 Tryz.underlying48 Tryz.underlying3 (by kernel_rfl) h1;obtain⟨s2,aOr,cap2,rfl⟩:=okWide_slice Tryz.underlying48 (hval 2 48 v2 rfl rfl);obtain⟨z2,hz2,aFr,hcap2,aN9⟩:=V6 Tryz.underlying48 Tryz.underlying3 (by kernel_rfl) h2;have aDg:cap0<=1048576:=Ug hk (by simp) (Jj Tryz.underlying22 k0);have aPa:aNA<=1048576:=Ug hk (by simp) (Jj Tryz.underlying48 k1);have aO9:cap2<=1048576:=Ug hk (by simp) (Jj Tryz.underlying48 k2);clear hA0 hval0;refine(Yr s0 aCg cap0 z0 hz0 aCq hcap0 Xa aDg s1 aOs aNA z1 hz1 aOu hcap1 aOa aPa s2 aOr cap2 z2 hz2 aFr hcap2 aN9 aO9 (w:=W)).mono λe W' ⟨he,Qg⟩=> ?_;subst he;exact⟨_,rfl,_,_,_,[],_,[],hW',trodAll_mk1 (shut_bool Tryz.underlying4 _),(trodAll_cons_mk (Below.trod laidOut (by kernel_rfl) (of_decide_eq_true (by kernel_rfl)) k0 Qg lt0) (trodAll_cons_mk (Below.trod laidOut (by kernel_rfl) (of_decide_eq_true (by kernel_rfl)) k1 Qg lt1) (trodAll_cons_mk (Below.trod laidOut (by kernel_rfl) (of_decide_eq_true (by kernel_rfl)) k2 Qg lt2) trodAll_mk0))),rfl,Qg.frame _,λh=>by cases h⟩
theorem over:Rows.vmReclaimUptoRow.holds Tryz.pinned (Rows.OpenSpec.upto Rows.vmReclaimSpec):=
 OpenClaim.holds_of_cond 7 Tryz.f7 rfl rfl rfl rfl rfl rfl rfl ⟨rfl,rfl,rfl,rfl,rfl⟩ rfl rfl rfl rfl rfl (by kernel_rfl) Tryz.func7 (by kernel_rfl)
  (of_decide_eq_true (by kernel_rfl)) (by unfold Func.isWrapper;first|(rw[if_pos (by decide+kernel)];kernel_rfl)|(rw[if_neg (by decide+kernel)];exact⟨rfl,rfl⟩))
  (λos started H enc _ F=>lifted os started H enc F)
end VmReclaim
theorem vmReclaim_holds:Rows.VmReclaimUptoSaid:=VmReclaim.over
#print axioms vmReclaim_holds
end Go.Proofs.YtoogfmbojlpjaaaGreat
