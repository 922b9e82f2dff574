/- What a controller has comes through: deltas sent as the agent asks for them, over a link that loses, doubles and brings gr frames, have all been taken in when the link is good for long enough (P11): the statement Arrives, for every input. Condition: the package-level variables that errors.As and the table shapes read hold what the program's text lays there (the card ties them to that text). -/
import Derived.Test.YtkkfmkhbdoeglabGreatDoorG00
import Derived.Test.YtkkfmkhbdoeglabGreatDoorG42
import Derived.Test.YtkkfmkhbdoeglabGreatDoorG44
set_option maxRecDepth 100000
namespace Go.Proofs.YtkkfmkhbdoeglabGreatDoor.arrivesLaw
open Go.ChangeShapes Go.WideShapes Go.ChangeAt Go.RowKit
theorem vars {W:World} (hs:2≤W.heap.size) (h:laidMetH Tryz.prog Rows.arrivesRow.laid W):ErrVar W∧ShapesVar W :=
 ⟨⟨hs, nR (ax.2 rfl) (show laidMet Tryz.prog [("overlay/overlay.shapes", Rows.laid_overlay_overlay_shapes)] W ∧ handlesMet Tryz.prog [("errors.errorType", Rows.laid_errors_errorType)] W from h).2⟩, qw hs (show laidMet Tryz.prog [("overlay/overlay.shapes", Rows.laid_overlay_overlay_shapes)] W ∧ handlesMet Tryz.prog [("errors.errorType", Rows.laid_errors_errorType)] W from h).1⟩
theorem wF (os:Os):laidMetH Tryz.prog Rows.arrivesRow.laid ((mr os).forCall (fun _ _=>0) ⟨#[],#[.int .i64 0,.slice none 0 0,.slice none 0 0],[]⟩).memory :=
 laidMetH_of_parts (wW os _) (by kernel_rfl)
theorem contract (H:Type) (enc:TypeId×Value→H) (W:World) (base:Nat) (args:Array Value) (s gs:List (DataW H)) (before:List MemPlace)
  (b:∀ (j:Nat) t v,Tryz.f5.params[j]?=some t→args[j]?=some v→Value.okWide Tryz.prog W .any base t v)
  (D:DataW.Whole enc Tryz.prog Tryz.f5.params.toList Rows.arrivesSpec.vars false W args.toList s gs before) (E:laidMetH Tryz.prog Rows.arrivesRow.laid W)
  (u:(DataW.weightsEach Tryz.prog (Tryz.f5.params.toList++(OpenSpec.ofChange Rows.arrivesSpec).bare.plain.varTypes Tryz.prog) (s++gs)).all (·≤reachBytes)=true) (o:W.ShapedOpen Tryz.prog) :
  Calls Tryz.prog 5 args W fun e W'=>∃ v,e = .returned v∧Rows.arrivesSpec.post enc Tryz.prog Tryz.f5 false true false false W args v W':=by
 have i:=yH o
 clear o
 have F:=D
 have d:=vars i E
 obtain ⟨p,q,r,S,rfl,aa,ag⟩:=D
 have G:DataW.TrodAll enc Tryz.prog W 0 (fun _=>true) true Tryz.f5.params.toList args.toList s p:=r
 rw [Tryz.params5] at G b u
 have I:=ab u
 clear u r E
 obtain ⟨v0,ak,d0,al,p0,q0,m,rfl,rfl,U,r0⟩:=eJ G
 obtain ⟨v1,am,d1,ap,p1,q1,rfl,rfl,rfl,h1,r1⟩:=eJ r0
 obtain ⟨v2,av,d2,aE,p2,q2,rfl,rfl,rfl,h2,r2⟩:=eJ r1
 obtain ⟨rfl,rfl,rfl⟩:=trodAll_nil r2
 obtain rfl:args=#[v0,v1,v2]:=by
  obtain ⟨l⟩:=args
  exact aZ Array.mk m
 obtain ⟨rfl,rfl⟩:=trodVars_none S
 obtain ⟨V,rfl,J⟩:=sj Tryz.underlying3 (b 0 3 v0 rfl rfl) U
 obtain ⟨M,N⟩:=bounds_i64 J
 obtain ⟨X,O⟩:=th Tryz.underlying73 (b 1 73 v1 rfl rfl) h1 (fun h=>uz h (tU I.out 1 rfl rfl))
 obtain ⟨Y,Q⟩:=th Tryz.underlying22 (b 2 22 v2 rfl rfl) h2 (fun h=>uy h (tU I.out 2 rfl rfl))
 obtain ⟨R,x,y⟩:=Q.view
 obtain ⟨a0,B,C⟩:=O.view
 refine (yP X Y V _ _ W C y (fun l hl=>(B l hl).2) x (by omega) (by unfold gF at R;omega) ⟨M,N⟩ d.2 d.1).mono fun e W' ⟨he,Z⟩ => ?_
 subst he
 exact ⟨_,rfl,AL F rfl (by kernel_rfl) Tryz.underlying4 rfl rfl rfl laidOut (by decide +kernel) Z⟩
theorem reads (os:Os) {H:Type} (enc:TypeId×Value→H):∃ places,DataW.whole enc Tryz.prog ((mr os).forCall (fun _ _=>0) ⟨#[],#[.int .i64 0,.slice none 0 0,.slice none 0 0],[]⟩).memory Tryz.f5.params.toList Rows.arrivesSpec.vars false (#[.int .i64 0,.slice none 0 0,.slice none 0 0]:Array Value).toList 8=some ([.lit (.int .i64 0),.nil,.nil],[],places) :=
 ⟨[],by kernel_rfl⟩
theorem lifted (os:Os) (started:os.Started) (H:Type) (enc:TypeId×Value→H) (F:Stop.Interp) :
  ReturnsInHanded {} Tryz.checked os 5 .any ((OpenSpec.ofChange Rows.arrivesSpec).preRow enc Tryz.prog Tryz.f5 Rows.arrivesRow.domain false Rows.arrivesRow.laid) (((OpenSpec.ofChange Rows.arrivesSpec).at F).post enc Tryz.prog Tryz.f5 false true false false):=by
 obtain ⟨places,i⟩:=reads os enc
 refine returnsInHanded_of_row (C:=Tryz.checked) (s:=OpenSpec.ofChange Rows.arrivesSpec) own started (by kernel_rfl) Tryz.func5
  (witness_row_at (enc:=enc) (C:=Tryz.checked) false (mr os) #[.int .i64 0,.slice none 0 0,.slice none 0 0] rfl (by kernel_rfl) (by kernel_rfl) (by kernel_rfl)
   (OpenSpec.preRow_of_cond 8 i (by kernel_rfl) (fun k hk=>by cases hk) (by kernel_rfl) (wF os))) ?_
 intro W base args j gs before b l _ _ m o d _
 exact contract H enc W base args j gs before b l o m d
theorem said:Rows.ArrivesSaid :=
 OpenClaim.holds_of_cond 5 Tryz.f5 rfl rfl rfl rfl rfl rfl rfl ⟨rfl,rfl,rfl,rfl,rfl⟩ rfl rfl rfl rfl rfl (by kernel_rfl) Tryz.func5 (by kernel_rfl)
  (dE (by kernel_rfl)) (by unfold Func.isWrapper;first | (rw [aD (by decide +kernel)];kernel_rfl) | (rw [au (by decide +kernel)];exact ⟨rfl,rfl⟩))
  (fun os started H enc _ F=>by rw [OpenClaim.pre_eq_preRow];exact lifted os started H enc F)
theorem plain (f : FuncId) (fn : Func) (l : Tryz.pinned.checked.prog.funcNamed "overlay/overlaykeep.Arrives" = some f) (i : Tryz.pinned.checked.prog.funcs[f]? = some fn) :
  true=Tryz.pinned.checked.prog.looks []∧∀ (j:Nat) t,fn.params[j]?=some t→Tryz.pinned.checked.prog.wantsStandIn t=false:=by
 obtain rfl : f = 5 := Option.some.inj ((show Tryz.prog.funcNamed "overlay/overlaykeep.Arrives" = some 5 by kernel_rfl).symm.trans l) |>.symm
 obtain rfl:fn=Tryz.f5:=(Option.some.inj (Tryz.func5.symm.trans i)).symm
 refine ⟨by kernel_rfl,fun j t b => ?_⟩
 rw [Tryz.params5] at b
 have hm:=Array.mem_of_getElem? b
 simp only [List.mem_toArray,aP,fh,or_false] at hm
 have d:∀ t∈[3,73,22],Tryz.prog.wantsStandIn t=false:=by
  intro t b
  simp only [aP,fh,or_false] at b
  rcases b with rfl | rfl | rfl <;> kernel_rfl
 exact d t (by simpa using hm)
theorem card:Rows.ArrivesCardSaid :=
 Claim7.holds_tied_plain_at .later [] _ _ _ _ said (fun _ h=>by cases h) (by kernel_rfl) (fun _ h=>by cases h) arrives_row_tie rfl ⟨rfl,rfl⟩ (by kernel_rfl) rfl plain (by kernel_rfl)
end Go.Proofs.YtkkfmkhbdoeglabGreatDoor.arrivesLaw
