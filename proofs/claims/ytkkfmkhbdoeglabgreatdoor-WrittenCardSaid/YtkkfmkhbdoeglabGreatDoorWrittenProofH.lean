/- Of any four deltas that are taken in at most one needs more than four sectors: the statement Written, for every input. Condition: the package-level variables that errors.As and the table shapes read hold what the program's text lays qO (the card ties them to that text). -/
import Derived.Test.YtkkfmkhbdoeglabGreatDoorV33
set_option maxRecDepth 100000
namespace Go.Proofs.YtkkfmkhbdoeglabGreatDoor.writtenLaw
open Go.Proofs.Tryz
open Go.ChangeShapes Go.WideShapes Go.ChangeAt Go.RowKit
theorem QT{W:World}(b:2<=_root_.Array.size (World.heap W))(h:laidMetH prog Rows.writtenRow.laid W):kM W/\gZ W:=
 ⟨⟨b,rI (ay.2 rfl) (show laidMet prog [("overlay/overlay.shapes",Rows.laid_overlay_overlay_shapes)] W∧handlesMet prog [("errors.errorType",Rows.laid_errors_errorType)] W from h).2⟩,vj b (show laidMet prog [("overlay/overlay.shapes",Rows.laid_overlay_overlay_shapes)] W∧handlesMet prog [("errors.errorType",Rows.laid_errors_errorType)] W from h).1⟩
theorem Bq(os:Os):laidMetH prog Rows.writtenRow.laid ((qe os).forCall (fun _ _=>0) ⟨#[],#[.int .i64 0,.slice none 0 0],[]⟩).memory:=
 laidMetH_of_parts (BX os _) (by kernel_rfl)
theorem contract(H:Type)(enc:TypeId×Value->H)(W:World)(base:Nat)(args:Array Value)(u gs:List (DataW H))(before:List MemPlace)(b:∀(j:Nat) t v,f4.params[j]?=some t->args[j]?=some v->Value.okWide prog W .any base t v)(B:DataW.Whole enc prog f4.params.toList Rows.writtenSpec.vars false W args.toList u gs before)(C:laidMetH prog Rows.writtenRow.laid W)(x:(DataW.weightsEach prog (f4.params.toList++(OpenSpec.ofChange Rows.writtenSpec).bare.plain.varTypes prog) (u++gs)).all (·<=reachBytes)=true)(r:W.ShapedOpen prog):
  Calls prog 4 args W fun e W'=>∃v,e=.returned v/\Rows.writtenSpec.post enc prog f4 false true false false W args v W':=by
 have i:=DY r;clear r;have D:=B;have d:=QT i C;obtain⟨p,q,s,U,rfl,ak,al⟩:=B;have E:DataW.TrodAll enc prog W 0 (fun _=>true) true f4.params.toList args.toList u p:=s;rw[params4]at E b x;have V:=gj x;clear x s C;obtain⟨F,am,d0,ap,p0,q0,m,rfl,rfl,X,r0⟩:=trodAll_cons E;obtain⟨M,av,d1,aE,p1,q1,rfl,rfl,rfl,h1,r1⟩:=trodAll_cons r0;obtain⟨rfl,rfl,rfl⟩:=trodAll_nil r1;obtain rfl:args=#[F,M]:=by obtain⟨l⟩:=args;exact bm Array.mk m
 obtain⟨rfl,rfl⟩:=trodVars_none U;obtain⟨Z,rfl,R⟩:=J7 underlying3 (b 0 3 F rfl rfl) X;obtain⟨a0,a1⟩:=bounds_i64 R;obtain⟨l1,S⟩:=vF underlying44 (b 1 44 M rfl rfl) h1 (fun h=>Ug h (vS V.o 1 rfl rfl));obtain⟨a2,y⟩:=S.view;refine(Uk Z _ l1 W y d.2 d.1).mono fun e W' ⟨he,hb⟩=>?_;subst he;exact⟨_,rfl,Gs D rfl (by kernel_rfl) underlying4 rfl rfl rfl QV (by decide +kernel) hb⟩
theorem QX(os:Os){H:Type}(enc:TypeId×Value->H):∃places,DataW.whole enc prog ((qe os).forCall (fun _ _=>0) ⟨#[],#[.int .i64 0,.slice none 0 0],[]⟩).memory f4.params.toList Rows.writtenSpec.vars false (#[.int .i64 0,.slice none 0 0]:Array Value).toList 8=some ([.lit (.int .i64 0),.nil],[],places):=
 ⟨[],by kernel_rfl⟩
theorem lifted(os:Os)(started:os.Started)(H:Type)(enc:TypeId×Value->H)(F:Stop.Interp):
  ReturnsInHanded {} Tryz.checked os 4 .any ((OpenSpec.ofChange Rows.writtenSpec).preRow enc prog f4 Rows.writtenRow.domain false Rows.writtenRow.laid) (((OpenSpec.ofChange Rows.writtenSpec).at F).post enc prog f4 false true false false):=by
 obtain⟨places,i⟩:=QX os enc
 refine returnsInHanded_of_row (C:=Tryz.checked) (s:=OpenSpec.ofChange Rows.writtenSpec) own started (by kernel_rfl) func4
  (witness_row_at (enc:=enc) (C:=Tryz.checked) false (qe os) #[.int .i64 0,.slice none 0 0] rfl (by kernel_rfl) (by kernel_rfl) (by kernel_rfl)
    (OpenSpec.preRow_of_cond 8 i (by kernel_rfl) (fun k hk=>by cases hk) (by kernel_rfl) (Bq os))) ?_
 intro W base args j gs before b l _ _ m o d _;exact contract H enc W base args j gs before b l o m d
theorem said:Rows.WrittenSaid:=
 OpenClaim.holds_of_cond 4 f4 rfl rfl rfl rfl rfl rfl rfl ⟨rfl,rfl,rfl,rfl,rfl⟩ rfl rfl rfl rfl rfl (by kernel_rfl) func4 (by kernel_rfl)
  (dh (by kernel_rfl)) (by unfold Func.isWrapper;first|(rw[aw (by decide +kernel)];kernel_rfl)|(rw[af (by decide +kernel)];exact⟨rfl,rfl⟩))
  (fun os started H enc _ F=>by rw[OpenClaim.pre_eq_preRow];exact lifted os started H enc F)
theorem plain(f:FuncId)(fn:Func)(l:Tryz.pinned.checked.prog.funcNamed "overlay/overlaylaw.Written" = some f)(i:Tryz.pinned.checked.prog.funcs[f]?=some fn):
  true=Tryz.pinned.checked.prog.looks []/\∀(j:Nat) t,fn.params[j]?=some t->Tryz.pinned.checked.prog.wantsStandIn t=false:=by
 obtain rfl:f=4:=Option.some.inj ((show prog.funcNamed "overlay/overlaylaw.Written" = some 4 by kernel_rfl).symm.trans l) |>.symm;obtain rfl:fn=f4:=(Option.some.inj (func4.symm.trans i)).symm;refine⟨by kernel_rfl,fun j t b=>?_⟩;rw[params4]at b;have hm:=Array.mem_of_getElem? b;simp only[List.mem_toArray,aZ,eU,or_false]at hm;have d:∀t∈[3,44],prog.wantsStandIn t=false:=by intro t b;simp only[aZ,eU,or_false]at b;rcases b with rfl|rfl<;>kernel_rfl
 exact d t (by simpa using hm)
theorem card:Rows.WrittenCardSaid:=
 Claim7.holds_tied_plain_at .later [] _ _ _ _ said (fun _ h=>by cases h) (by kernel_rfl) (fun _ h=>by cases h) written_row_tie rfl ⟨rfl,rfl⟩ (by kernel_rfl) rfl plain (by kernel_rfl)
end Go.Proofs.YtkkfmkhbdoeglabGreatDoor.writtenLaw
