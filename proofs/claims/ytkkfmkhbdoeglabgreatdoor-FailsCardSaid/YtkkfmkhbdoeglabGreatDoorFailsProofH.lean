/- The statement Fails. Condition: the variables that errors.As and the shapes read hold what the program's text lays there. -/
import Derived.Test.YtkkfmkhbdoeglabGreatDoorG35
import Derived.Test.YtkkfmkhbdoeglabGreatDoorG36
set_option maxRecDepth 100000
namespace Go.Proofs.YtkkfmkhbdoeglabGreatDoor.failsLaw
open Go.Value renaming int->I,slice->Q6
open Option renaming none->J,some->N
open Go.Proofs.Tryz
open Go.ChangeShapes Go.WideShapes Go.ChangeAt Go.RowKit
theorem QT{W:World}(b:2<=_root_.Array.size (World.heap W))(h:laidMetH prog Rows.failsRow.laid W):kM W/\gZ W:=
 ⟨⟨b,rI (ay.2 rfl) (show laidMet prog [("overlay/overlay.shapes",Rows.laid_overlay_overlay_shapes)] W∧handlesMet prog [("errors.errorType",Rows.laid_errors_errorType)] W from h).2⟩,vj b (show laidMet prog [("overlay/overlay.shapes",Rows.laid_overlay_overlay_shapes)] W∧handlesMet prog [("errors.errorType",Rows.laid_errors_errorType)] W from h).1⟩
theorem Bq(os:Os):laidMetH prog Rows.failsRow.laid ((qe os).forCall (fun _ _=>0) ⟨#[],#[I .i64 0,Q6 J 0 0,Q6 J 0 0],[]⟩).memory:=
 laidMetH_of_parts (BX os _) (by kernel_rfl)
theorem contract(H:Type)(enc:TypeId×Value->H)(W:World)(base:Nat)(args:Array Value)(x gs:List (DataW H))(i:List MemPlace)(b:∀(j:Nat) t v,f9.params[j]?=N t->args[j]?=N v->Value.okWide prog W .any base t v)(C:DataW.Whole enc prog f9.params.toList Rows.failsSpec.vars false W args.toList x gs i)(D:laidMetH prog Rows.failsRow.laid W)(y:(DataW.weightsEach prog (f9.params.toList++(OpenSpec.ofChange Rows.failsSpec).bare.plain.varTypes prog) (x++gs)).all (·<=reachBytes)=true)(s:W.ShapedOpen prog):
  Calls prog 9 args W fun e W'=>∃v,e=.returned v/\Rows.failsSpec.post enc prog f9 false true false false W args v W':=by
 have m:=DY s;clear s;have E:=C;have d:=QT m D;obtain⟨p,q,u,hV,rfl,aE,a0⟩:=C;have F:DataW.TrodAll enc prog W 0 (fun _=>true) true f9.params.toList args.toList x p:=u;rw[params9]at F b y;have M:=gj y;clear y u D;obtain⟨R,a1,d0,a2,p0,q0,r,rfl,rfl,h0,r0⟩:=trodAll_cons F;obtain⟨S,a3,d1,a4,p1,q1,rfl,rfl,rfl,h1,r1⟩:=trodAll_cons r0;obtain⟨v2,a5,d2,a6,p2,q2,rfl,rfl,rfl,h2,r2⟩:=trodAll_cons r1;obtain⟨rfl,rfl,rfl⟩:=trodAll_nil r2;obtain rfl:args=#[R,S,v2]:=by obtain⟨l⟩:=args;exact bm Array.mk r
 obtain⟨rfl,rfl⟩:=trodVars_none hV;obtain⟨x0,rfl,U⟩:=J7 underlying3 (b 0 3 R rfl rfl) h0;obtain⟨a7,a8⟩:=bounds_i64 U;obtain⟨l1,V⟩:=vF underlying22 (b 1 22 S rfl rfl) h1 (fun h=>zA h (vS M.o 1 rfl rfl));obtain⟨X,ap,B⟩:=V.view;obtain⟨l2,Z⟩:=vF underlying84 (b 2 84 v2 rfl rfl) h2 (fun h=>wo h (vS M.o 2 rfl rfl));refine(Vx J9 x0 l1 _ _ _ _ W B X d.2 d.1 Z.view).mono fun e W' ⟨he,hb⟩=>?_;subst he;exact⟨_,rfl,Gs E rfl (by kernel_rfl) underlying4 rfl rfl rfl QV (by decide +kernel) hb⟩
theorem QX(os:Os){H:Type}(enc:TypeId×Value->H):∃pl,DataW.whole enc prog ((qe os).forCall (fun _ _=>0) ⟨#[],#[I .i64 0,Q6 J 0 0,Q6 J 0 0],[]⟩).memory f9.params.toList Rows.failsSpec.vars false (#[I .i64 0,Q6 J 0 0,Q6 J 0 0]:Array Value).toList 8=N ([.lit (.int .i64 0),.nil,.nil],[],pl):=
 ⟨[],by kernel_rfl⟩
theorem lifted(os:Os)(b:os.Started)(H:Type)(enc:TypeId×Value->H)(F:Stop.Interp):
  ReturnsInHanded {} Tryz.checked os 9 .any ((OpenSpec.ofChange Rows.failsSpec).preRow enc prog f9 Rows.failsRow.domain false Rows.failsRow.laid) (((OpenSpec.ofChange Rows.failsSpec).at F).post enc prog f9 false true false false):=by
 obtain⟨pl,l⟩:=QX os enc
 refine returnsInHanded_of_row (C:=Tryz.checked) (s:=OpenSpec.ofChange Rows.failsSpec) own b (by kernel_rfl) func9
  (witness_row_at (enc:=enc) (C:=Tryz.checked) false (qe os) #[I .i64 0,Q6 J 0 0,Q6 J 0 0] rfl (by kernel_rfl) (by kernel_rfl) (by kernel_rfl)
    (OpenSpec.preRow_of_cond 8 l (by kernel_rfl) (fun k hk=>by cases hk) (by kernel_rfl) (Bq os))) ?_
 intro W base args m gs d i o _ _ q r j _;exact contract H enc W base args m gs d i o r q j
theorem said:Rows.FailsSaid:=
 OpenClaim.holds_of_cond 9 f9 rfl rfl rfl rfl rfl rfl rfl ⟨rfl,rfl,rfl,rfl,rfl⟩ rfl rfl rfl rfl rfl (by kernel_rfl) func9 (by kernel_rfl)
  (dh (by kernel_rfl)) (by unfold Func.isWrapper;first|(rw[aw (by decide +kernel)];kernel_rfl)|(rw[af (by decide +kernel)];exact⟨rfl,rfl⟩))
  (fun os b H enc _ F=>by rw[OpenClaim.pre_eq_preRow];exact lifted os b H enc F)
theorem plain(f:FuncId)(fn:Func)(l:Tryz.pinned.checked.prog.funcNamed "overlay/overlaylaw.Fails" = N f)(i:Tryz.pinned.checked.prog.funcs[f]?=N fn):
  true=Tryz.pinned.checked.prog.looks []/\∀(j:Nat) t,fn.params[j]?=N t->Tryz.pinned.checked.prog.wantsStandIn t=false:=by
 obtain rfl:f=9:=Option.some.inj ((show prog.funcNamed "overlay/overlaylaw.Fails" = N 9 by kernel_rfl).symm.trans l) |>.symm;obtain rfl:fn=f9:=(Option.some.inj (func9.symm.trans i)).symm;refine⟨by kernel_rfl,fun j t b=>?_⟩;rw[params9]at b;have hm:=Array.mem_of_getElem? b;simp only[List.mem_toArray,aZ,eU,or_false]at hm;have d:∀t∈[3,22,84],prog.wantsStandIn t=false:=by intro t b;simp only[aZ,eU,or_false]at b;rcases b with rfl|rfl|rfl<;>kernel_rfl
 exact d t (by simpa using hm)
theorem card:Rows.FailsCardSaid:=
 Claim7.holds_tied_plain_at .later [] _ _ _ _ said (fun _ h=>by cases h) (by kernel_rfl) (fun _ h=>by cases h) fails_row_tie rfl ⟨rfl,rfl⟩ (by kernel_rfl) rfl plain (by kernel_rfl)
end Go.Proofs.YtkkfmkhbdoeglabGreatDoor.failsLaw
