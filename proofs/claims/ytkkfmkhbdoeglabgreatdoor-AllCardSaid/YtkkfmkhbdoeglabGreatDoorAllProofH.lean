/- The statement All, for every input. Condition: the package-level variables that errors.As and the table shapes read hold what the program's text lays there (the card ties them to that text). -/
import Derived.Test.YtkkfmkhbdoeglabGreatDoorG36
set_option maxRecDepth 100000
namespace Go.Proofs.YtkkfmkhbdoeglabGreatDoor
open Go.Proofs.Tryz
open Go.RowKit Go.Shelf
theorem IY(r:Ad)(b:Int)(l:List Int)(q v:Value)(s:List yo)(d:List Value)(w:World)(u:gE w q 1 (List.length l) (l.map fun i=>.int .i64 i))(hl:List.length l<=im)(j:gZ w)(m:kM w)(x:JY w v s d):
  Calls prog 10 #[.int .i64 b,q,v] w fun e w'=>e=.returned (.bool true)/\Below (_root_.Array.size (World.heap w)) w w':=by
 have B:=gj (fun last=>xM r b last l q v s d w u hl j m x);obtain⟨-,D,rc,rfl,-,-⟩:=u;obtain⟨-,⟨a,c,rfl,-,-⟩,-⟩:=x;clear j m;go_enter func10,ntmps10;go_wp2_with fail;refine(B.o _).mono ?_;rintro e w1 ⟨rfl,y⟩;have C:=gj y;clear y;go_wp2;go_ret;exact⟨rfl,C.o⟩
end Go.Proofs.YtkkfmkhbdoeglabGreatDoor
namespace Go.Proofs.YtkkfmkhbdoeglabGreatDoor.allLaw
open Go.Proofs.Tryz
open Go.ChangeShapes Go.WideShapes Go.ChangeAt Go.RowKit
theorem QT{W:World}(b:2<=_root_.Array.size (World.heap W))(h:laidMetH prog Rows.allRow.laid W):kM W/\gZ W:=
 ⟨⟨b,rI (ay.2 rfl) (show laidMet prog [("overlay/overlay.shapes",Rows.laid_overlay_overlay_shapes)] W∧handlesMet prog [("errors.errorType",Rows.laid_errors_errorType)] W from h).2⟩,vj b (show laidMet prog [("overlay/overlay.shapes",Rows.laid_overlay_overlay_shapes)] W∧handlesMet prog [("errors.errorType",Rows.laid_errors_errorType)] W from h).1⟩
theorem Bq(os:Os):laidMetH prog Rows.allRow.laid ((qe os).forCall (fun _ _=>0) ⟨#[],#[.int .i64 0,.slice none 0 0,.slice none 0 0],[]⟩).memory:=
 laidMetH_of_parts (BX os _) (by kernel_rfl)
theorem contract(H:Type)(enc:TypeId×Value->H)(W:World)(base:Nat)(args:Array Value)(x gs:List (DataW H))(i:List MemPlace)(b:∀(j:Nat) t v,f10.params[j]?=some t->args[j]?=some v->Value.okWide prog W .any base t v)(C:DataW.Whole enc prog f10.params.toList Rows.allSpec.vars false W args.toList x gs i)(D:laidMetH prog Rows.allRow.laid W)(y:(DataW.weightsEach prog (f10.params.toList++(OpenSpec.ofChange Rows.allSpec).bare.plain.varTypes prog) (x++gs)).all (·<=reachBytes)=true)(s:W.ShapedOpen prog):
  Calls prog 10 args W fun e W'=>∃v,e=.returned v/\Rows.allSpec.post enc prog f10 false true false false W args v W':=by
 have m:=DY s;clear s;have E:=C;have d:=QT m D;obtain⟨p,q,u,hV,rfl,aE,a0⟩:=C;have F:DataW.TrodAll enc prog W 0 (fun _=>true) true f10.params.toList args.toList x p:=u;rw[params10]at F b y;have M:=gj y;clear y u D;obtain⟨R,a1,d0,a2,p0,q0,r,rfl,rfl,h0,r0⟩:=trodAll_cons F;obtain⟨S,a3,d1,a4,p1,q1,rfl,rfl,rfl,h1,r1⟩:=trodAll_cons r0;obtain⟨v2,a5,d2,a6,p2,q2,rfl,rfl,rfl,h2,r2⟩:=trodAll_cons r1;obtain⟨rfl,rfl,rfl⟩:=trodAll_nil r2;obtain rfl:args=#[R,S,v2]:=by obtain⟨l⟩:=args;exact bm Array.mk r
 obtain⟨rfl,rfl⟩:=trodVars_none hV;obtain⟨x0,rfl,U⟩:=J7 underlying3 (b 0 3 R rfl rfl) h0;obtain⟨a7,a8⟩:=bounds_i64 U;obtain⟨l1,V⟩:=vF underlying22 (b 1 22 S rfl rfl) h1 (fun h=>zA h (vS M.o 1 rfl rfl));obtain⟨X,ap,B⟩:=V.view;obtain⟨l2,Z⟩:=vF underlying84 (b 2 84 v2 rfl rfl) h2 (fun h=>wo h (vS M.o 2 rfl rfl));refine(IY J9 x0 l1 _ _ _ _ W B X d.2 d.1 Z.view).mono fun e W' ⟨he,hb⟩=>?_;subst he;exact⟨_,rfl,Gs E rfl (by kernel_rfl) underlying4 rfl rfl rfl QV (by decide +kernel) hb⟩
theorem QX(os:Os){H:Type}(enc:TypeId×Value->H):∃places,DataW.whole enc prog ((qe os).forCall (fun _ _=>0) ⟨#[],#[.int .i64 0,.slice none 0 0,.slice none 0 0],[]⟩).memory f10.params.toList Rows.allSpec.vars false (#[.int .i64 0,.slice none 0 0,.slice none 0 0]:Array Value).toList 8=some ([.lit (.int .i64 0),.nil,.nil],[],places):=
 ⟨[],by kernel_rfl⟩
theorem lifted(os:Os)(started:os.Started)(H:Type)(enc:TypeId×Value->H)(F:Stop.Interp):
  ReturnsInHanded {} Tryz.checked os 10 .any ((OpenSpec.ofChange Rows.allSpec).preRow enc prog f10 Rows.allRow.domain false Rows.allRow.laid) (((OpenSpec.ofChange Rows.allSpec).at F).post enc prog f10 false true false false):=by
 obtain⟨places,j⟩:=QX os enc
 refine returnsInHanded_of_row (C:=Tryz.checked) (s:=OpenSpec.ofChange Rows.allSpec) own started (by kernel_rfl) func10
  (witness_row_at (enc:=enc) (C:=Tryz.checked) false (qe os) #[.int .i64 0,.slice none 0 0,.slice none 0 0] rfl (by kernel_rfl) (by kernel_rfl) (by kernel_rfl)
    (OpenSpec.preRow_of_cond 8 j (by kernel_rfl) (fun k hk=>by cases hk) (by kernel_rfl) (Bq os))) ?_
 intro W base args l gs b d m _ _ o q i _;exact contract H enc W base args l gs b d m q o i
theorem said:Rows.AllSaid:=
 OpenClaim.holds_of_cond 10 f10 rfl rfl rfl rfl rfl rfl rfl ⟨rfl,rfl,rfl,rfl,rfl⟩ rfl rfl rfl rfl rfl (by kernel_rfl) func10 (by kernel_rfl)
  (dh (by kernel_rfl)) (by unfold Func.isWrapper;first|(rw[aw (by decide +kernel)];kernel_rfl)|(rw[af (by decide +kernel)];exact⟨rfl,rfl⟩))
  (fun os started H enc _ F=>by rw[OpenClaim.pre_eq_preRow];exact lifted os started H enc F)
theorem plain(f:FuncId)(fn:Func)(l:Tryz.pinned.checked.prog.funcNamed "overlay/overlaylaw.All" = some f)(i:Tryz.pinned.checked.prog.funcs[f]?=some fn):
  true=Tryz.pinned.checked.prog.looks []/\∀(j:Nat) t,fn.params[j]?=some t->Tryz.pinned.checked.prog.wantsStandIn t=false:=by
 obtain rfl:f=10:=Option.some.inj ((show prog.funcNamed "overlay/overlaylaw.All" = some 10 by kernel_rfl).symm.trans l) |>.symm;obtain rfl:fn=f10:=(Option.some.inj (func10.symm.trans i)).symm;refine⟨by kernel_rfl,fun j t b=>?_⟩;rw[params10]at b;have hm:=Array.mem_of_getElem? b;simp only[List.mem_toArray,aZ,eU,or_false]at hm;have d:∀t∈[3,22,84],prog.wantsStandIn t=false:=by intro t b;simp only[aZ,eU,or_false]at b;rcases b with rfl|rfl|rfl<;>kernel_rfl
 exact d t (by simpa using hm)
theorem card:Rows.AllCardSaid:=
 Claim7.holds_tied_plain_at .later [] _ _ _ _ said (fun _ h=>by cases h) (by kernel_rfl) (fun _ h=>by cases h) all_row_tie rfl ⟨rfl,rfl⟩ (by kernel_rfl) rfl plain (by kernel_rfl)
end Go.Proofs.YtkkfmkhbdoeglabGreatDoor.allLaw
