/- A state takes hold as a whole, or not at all, wherever all stops while it comes in pieces (P12, P14): the statement Whole, for every input. Condition: the package-level variables that errors.As and the table shapes read hold what the program's text lays there (the card ties them to that text). -/
import Derived.Test.YtkkfmkhbdoeglaaGreatDoorG00
import Derived.Test.YtkkfmkhbdoeglaaGreatDoorG39
import Derived.Test.YtkkfmkhbdoeglaaGreatDoorG42
set_option maxRecDepth 100000
namespace Go.Proofs.YtkkfmkhbdoeglaaGreatDoor.wholeLaw
open Go.ChangeShapes Go.WideShapes Go.ChangeAt Go.RowKit
theorem vars {W:World} (hs:2≤W.heap.size) (h:laidMetH Tryz.prog Rows.wholeRow.laid W):ErrVar W∧ShapesVar W :=
 ⟨⟨hs, rB (az.2 rfl) (show laidMet Tryz.prog [("overlay/overlay.shapes", Rows.laid_overlay_overlay_shapes)] W ∧ handlesMet Tryz.prog [("errors.errorType", Rows.laid_errors_errorType)] W from h).2⟩, wm hs (show laidMet Tryz.prog [("overlay/overlay.shapes", Rows.laid_overlay_overlay_shapes)] W ∧ handlesMet Tryz.prog [("errors.errorType", Rows.laid_errors_errorType)] W from h).1⟩
theorem Fo (os:Os):laidMetH Tryz.prog Rows.wholeRow.laid ((qI os).forCall (fun _ _=>0) ⟨#[],#[.int .i64 0,.slice none 0 0,.slice none 0 0,.int .i64 0,.int .i64 0,.int .i64 0,.int .i64 0],[]⟩).memory :=
 laidMetH_of_parts (CQ os _) (by kernel_rfl)
theorem contract (H:Type) (enc:TypeId×Value→H) (W:World) (base:Nat) (args:Array Value) (s gs:List (DataW H)) (before:List MemPlace)
  (b:∀ (j:Nat) t v,Tryz.f4.params[j]?=some t→args[j]?=some v→Value.okWide Tryz.prog W .any base t v)
  (D:DataW.Whole enc Tryz.prog Tryz.f4.params.toList Rows.wholeSpec.vars false W args.toList s gs before) (E:laidMetH Tryz.prog Rows.wholeRow.laid W)
  (u:(DataW.weightsEach Tryz.prog (Tryz.f4.params.toList++(OpenSpec.ofChange Rows.wholeSpec).bare.plain.varTypes Tryz.prog) (s++gs)).all (·≤reachBytes)=true) (o:W.ShapedOpen Tryz.prog) :
  Calls Tryz.prog 4 args W fun e W'=>∃ v,e = .returned v∧Rows.wholeSpec.post enc Tryz.prog Tryz.f4 false true false false W args v W':=by
 have i:=EI o
 clear o
 have F:=D
 have d:=vars i E
 obtain ⟨p,q,r,hV,rfl,bi,bk⟩:=D
 have G:DataW.TrodAll enc Tryz.prog W 0 (fun _=>true) true Tryz.f4.params.toList args.toList s p:=r
 rw [Tryz.params4] at G b u
 have I:=ae u
 clear u r E
 obtain ⟨v0,bl,d0,bn,p0,q0,m,rfl,rfl,h0,r0⟩:=fa G
 obtain ⟨v1,bo,d1,br,p1,q1,rfl,rfl,rfl,h1,r1⟩:=fa r0
 obtain ⟨v2,bs,d2,bt,p2,q2,rfl,rfl,rfl,h2,r2⟩:=fa r1
 obtain ⟨v3,bv,d3,bw,p3,q3,rfl,rfl,rfl,h3,r3⟩:=fa r2
 obtain ⟨v4,bx,d4,bz,p4,q4,rfl,rfl,rfl,h4,r4⟩:=fa r3
 obtain ⟨v5,bD,d5,bH,p5,q5,rfl,rfl,rfl,h5,r5⟩:=fa r4
 obtain ⟨v6,bI,d6,bL,p6,q6,rfl,rfl,rfl,h6,r6⟩:=fa r5
 obtain ⟨rfl,rfl,rfl⟩:=trodAll_nil r6
 obtain rfl:args=#[v0,v1,v2,v3,v4,v5,v6]:=by
  obtain ⟨l⟩:=args
  exact bB Array.mk m
 obtain ⟨rfl,rfl⟩:=trodVars_none hV
 obtain ⟨x0,rfl,J⟩:=rS Tryz.underlying3 (b 0 3 v0 rfl rfl) h0
 obtain ⟨M,N⟩:=bounds_i64 J
 obtain ⟨l1,O⟩:=xy Tryz.underlying29 (b 1 29 v1 rfl rfl) h1 (fun h=>tY h (yg I.out 1 rfl rfl))
 obtain ⟨Q,x,y⟩:=O.view
 obtain ⟨l2,R⟩:=xy Tryz.underlying29 (b 2 29 v2 rfl rfl) h2 (fun h=>tY h (yg I.out 2 rfl rfl))
 obtain ⟨S,B,C⟩:=R.view
 obtain ⟨x3,rfl,U⟩:=rS Tryz.underlying3 (b 3 3 v3 rfl rfl) h3
 obtain ⟨V,X⟩:=bounds_i64 U
 obtain ⟨x4,rfl,Y⟩:=rS Tryz.underlying3 (b 4 3 v4 rfl rfl) h4
 obtain ⟨Z,aa⟩:=bounds_i64 Y
 obtain ⟨x5,rfl,ab⟩:=rS Tryz.underlying3 (b 5 3 v5 rfl rfl) h5
 obtain ⟨ag,ak⟩:=bounds_i64 ab
 obtain ⟨x6,rfl,al⟩:=rS Tryz.underlying3 (b 6 3 v6 rfl rfl) h6
 obtain ⟨am,ap⟩:=bounds_i64 al
 refine (Br l1 l2 x0 x3 x4 x5 x6 _ _ W y C x B Q S ⟨M,N⟩ ⟨V,X⟩ ⟨Z,aa⟩ ⟨ag,ak⟩ ⟨am,ap⟩ d.2 d.1).mono fun e W' ⟨he,hb⟩ => ?_
 subst he
 exact ⟨_,rfl,Fq F rfl (by kernel_rfl) Tryz.underlying4 rfl rfl rfl laidOut (by decide +kernel) hb⟩
theorem reads (os:Os) {H:Type} (enc:TypeId×Value→H):∃ places,DataW.whole enc Tryz.prog ((qI os).forCall (fun _ _=>0) ⟨#[],#[.int .i64 0,.slice none 0 0,.slice none 0 0,.int .i64 0,.int .i64 0,.int .i64 0,.int .i64 0],[]⟩).memory Tryz.f4.params.toList Rows.wholeSpec.vars false (#[.int .i64 0,.slice none 0 0,.slice none 0 0,.int .i64 0,.int .i64 0,.int .i64 0,.int .i64 0]:Array Value).toList 8=some ([.lit (.int .i64 0),.nil,.nil,.lit (.int .i64 0),.lit (.int .i64 0),.lit (.int .i64 0),.lit (.int .i64 0)],[],places) :=
 ⟨[],by kernel_rfl⟩
theorem lifted (os:Os) (started:os.Started) (H:Type) (enc:TypeId×Value→H) (F:Stop.Interp) :
  ReturnsInHanded {} Tryz.checked os 4 .any ((OpenSpec.ofChange Rows.wholeSpec).preRow enc Tryz.prog Tryz.f4 Rows.wholeRow.domain false Rows.wholeRow.laid) (((OpenSpec.ofChange Rows.wholeSpec).at F).post enc Tryz.prog Tryz.f4 false true false false):=by
 obtain ⟨places,i⟩:=reads os enc
 refine returnsInHanded_of_row (C:=Tryz.checked) (s:=OpenSpec.ofChange Rows.wholeSpec) own started (by kernel_rfl) Tryz.func4
  (witness_row_at (enc:=enc) (C:=Tryz.checked) false (qI os) #[.int .i64 0,.slice none 0 0,.slice none 0 0,.int .i64 0,.int .i64 0,.int .i64 0,.int .i64 0] rfl (by kernel_rfl) (by kernel_rfl) (by kernel_rfl)
   (OpenSpec.preRow_of_cond 8 i (by kernel_rfl) (fun k hk=>by cases hk) (by kernel_rfl) (Fo os))) ?_
 intro W base args j gs before b l _ _ m o d _
 exact contract H enc W base args j gs before b l o m d
theorem said:Rows.WholeSaid :=
 OpenClaim.holds_of_cond 4 Tryz.f4 rfl rfl rfl rfl rfl rfl rfl ⟨rfl,rfl,rfl,rfl,rfl⟩ rfl rfl rfl rfl rfl (by kernel_rfl) Tryz.func4 (by kernel_rfl)
  (dV (by kernel_rfl)) (by unfold Func.isWrapper;first | (rw [aF (by decide +kernel)];kernel_rfl) | (rw [aw (by decide +kernel)];exact ⟨rfl,rfl⟩))
  (fun os started H enc _ F=>by rw [OpenClaim.pre_eq_preRow];exact lifted os started H enc F)
theorem plain (f : FuncId) (fn : Func) (l : Tryz.pinned.checked.prog.funcNamed "overlay/overlaykeep.Whole" = some f) (i : Tryz.pinned.checked.prog.funcs[f]? = some fn) :
  true=Tryz.pinned.checked.prog.looks []∧∀ (j:Nat) t,fn.params[j]?=some t→Tryz.pinned.checked.prog.wantsStandIn t=false:=by
 obtain rfl : f = 4 := Option.some.inj ((show Tryz.prog.funcNamed "overlay/overlaykeep.Whole" = some 4 by kernel_rfl).symm.trans l) |>.symm
 obtain rfl:fn=Tryz.f4:=(Option.some.inj (Tryz.func4.symm.trans i)).symm
 refine ⟨by kernel_rfl,fun j t b => ?_⟩
 rw [Tryz.params4] at b
 have hm:=Array.mem_of_getElem? b
 simp only [List.mem_toArray,aV,List.not_mem_nil,or_false] at hm
 have d:∀ t∈[3,29,29,3,3,3,3],Tryz.prog.wantsStandIn t=false:=by
  intro t b
  simp only [aV,List.not_mem_nil,or_false] at b
  rcases b with rfl | rfl | rfl | rfl | rfl | rfl | rfl <;> kernel_rfl
 exact d t (by simpa using hm)
theorem card:Rows.WholeCardSaid :=
 Claim7.holds_tied_plain_at .later [] _ _ _ _ said (fun _ h=>by cases h) (by kernel_rfl) (fun _ h=>by cases h) whole_row_tie rfl ⟨rfl,rfl⟩ (by kernel_rfl) rfl plain (by kernel_rfl)
end Go.Proofs.YtkkfmkhbdoeglaaGreatDoor.wholeLaw
