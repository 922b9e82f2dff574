/- What was acknowledged is never lost, whenever all stops and whatever has taken hold; a Start once more finds the same (P14): the statement Kept, for every input. Condition: the package-level variables that errors.As and the table shapes read hold what the program's text lays there (the card ties them to that text). -/
import Derived.Test.YtkkfmkhbdoeglabGreatDoorG00
import Derived.Test.YtkkfmkhbdoeglabGreatDoorG42
import Derived.Test.YtkkfmkhbdoeglabGreatDoorG45
set_option maxRecDepth 100000
namespace Go.Proofs.YtkkfmkhbdoeglabGreatDoor.keptLaw
open Go.ChangeShapes Go.WideShapes Go.ChangeAt Go.RowKit
theorem vars {W:World} (hs:2≤W.heap.size) (h:laidMetH Tryz.prog Rows.keptRow.laid W):ErrVar W∧ShapesVar W :=
 ⟨⟨hs, nR (ax.2 rfl) (show laidMet Tryz.prog [("overlay/overlay.shapes", Rows.laid_overlay_overlay_shapes)] W ∧ handlesMet Tryz.prog [("errors.errorType", Rows.laid_errors_errorType)] W from h).2⟩, qw hs (show laidMet Tryz.prog [("overlay/overlay.shapes", Rows.laid_overlay_overlay_shapes)] W ∧ handlesMet Tryz.prog [("errors.errorType", Rows.laid_errors_errorType)] W from h).1⟩
theorem wF (os:Os):laidMetH Tryz.prog Rows.keptRow.laid ((mr os).forCall (fun _ _=>0) ⟨#[],#[.int .i64 0,.slice none 0 0,.int .i64 0,.int .i64 0,.int .i64 0],[]⟩).memory :=
 laidMetH_of_parts (wW os _) (by kernel_rfl)
theorem contract (H:Type) (enc:TypeId×Value→H) (W:World) (base:Nat) (args:Array Value) (s gs:List (DataW H)) (before:List MemPlace)
  (b:∀ (j:Nat) t v,Tryz.f11.params[j]?=some t→args[j]?=some v→Value.okWide Tryz.prog W .any base t v)
  (B:DataW.Whole enc Tryz.prog Tryz.f11.params.toList Rows.keptSpec.vars false W args.toList s gs before) (C:laidMetH Tryz.prog Rows.keptRow.laid W)
  (u:(DataW.weightsEach Tryz.prog (Tryz.f11.params.toList++(OpenSpec.ofChange Rows.keptSpec).bare.plain.varTypes Tryz.prog) (s++gs)).all (·≤reachBytes)=true) (o:W.ShapedOpen Tryz.prog) :
  Calls Tryz.prog 11 args W fun e W'=>∃ v,e = .returned v∧Rows.keptSpec.post enc Tryz.prog Tryz.f11 false true false false W args v W':=by
 have i:=yH o
 clear o
 have D:=B
 have d:=vars i C
 obtain ⟨p,q,r,Y,rfl,a1,a2⟩:=B
 have E:DataW.TrodAll enc Tryz.prog W 0 (fun _=>true) true Tryz.f11.params.toList args.toList s p:=r
 rw [Tryz.params11] at E b u
 have Z:=ab u
 clear u r C
 obtain ⟨v0,a3,d0,a4,p0,q0,m,rfl,rfl,h0,r0⟩:=eJ E
 obtain ⟨v1,a5,d1,a6,p1,q1,rfl,rfl,rfl,h1,r1⟩:=eJ r0
 obtain ⟨v2,a7,d2,a9,p2,q2,rfl,rfl,rfl,h2,r2⟩:=eJ r1
 obtain ⟨v3,ba,d3,bb,p3,q3,rfl,rfl,rfl,h3,r3⟩:=eJ r2
 obtain ⟨v4,bc,d4,be,p4,q4,rfl,rfl,rfl,h4,r4⟩:=eJ r3
 obtain ⟨rfl,rfl,rfl⟩:=trodAll_nil r4
 obtain rfl:args=#[v0,v1,v2,v3,v4]:=by
  obtain ⟨l⟩:=args
  exact aZ Array.mk m
 obtain ⟨rfl,rfl⟩:=trodVars_none Y
 obtain ⟨x0,rfl,F⟩:=sj Tryz.underlying3 (b 0 3 v0 rfl rfl) h0
 obtain ⟨G,I⟩:=bounds_i64 F
 obtain ⟨l1,J⟩:=th Tryz.underlying73 (b 1 73 v1 rfl rfl) h1 (fun h=>uz h (tU Z.out 1 rfl rfl))
 obtain ⟨x2,rfl,M⟩:=sj Tryz.underlying3 (b 2 3 v2 rfl rfl) h2
 obtain ⟨N,O⟩:=bounds_i64 M
 obtain ⟨x3,rfl,Q⟩:=sj Tryz.underlying3 (b 3 3 v3 rfl rfl) h3
 obtain ⟨R,S⟩:=bounds_i64 Q
 obtain ⟨x4,rfl,U⟩:=sj Tryz.underlying3 (b 4 3 v4 rfl rfl) h4
 obtain ⟨V,X⟩:=bounds_i64 U
 obtain ⟨bi,x,y⟩:=J.view
 refine (D9 l1 x0 x2 x3 x4 _ W y (fun l hl=>(x l hl).2) (by omega) ⟨G,I⟩ ⟨N,O⟩ ⟨R,S⟩ ⟨V,X⟩ d.2 d.1).mono fun e W' ⟨he,hb⟩ => ?_
 subst he
 exact ⟨_,rfl,AL D rfl (by kernel_rfl) Tryz.underlying4 rfl rfl rfl laidOut (by decide +kernel) hb⟩
theorem reads (os:Os) {H:Type} (enc:TypeId×Value→H):∃ places,DataW.whole enc Tryz.prog ((mr os).forCall (fun _ _=>0) ⟨#[],#[.int .i64 0,.slice none 0 0,.int .i64 0,.int .i64 0,.int .i64 0],[]⟩).memory Tryz.f11.params.toList Rows.keptSpec.vars false (#[.int .i64 0,.slice none 0 0,.int .i64 0,.int .i64 0,.int .i64 0]:Array Value).toList 8=some ([.lit (.int .i64 0),.nil,.lit (.int .i64 0),.lit (.int .i64 0),.lit (.int .i64 0)],[],places) :=
 ⟨[],by kernel_rfl⟩
theorem lifted (os:Os) (started:os.Started) (H:Type) (enc:TypeId×Value→H) (F:Stop.Interp) :
  ReturnsInHanded {} Tryz.checked os 11 .any ((OpenSpec.ofChange Rows.keptSpec).preRow enc Tryz.prog Tryz.f11 Rows.keptRow.domain false Rows.keptRow.laid) (((OpenSpec.ofChange Rows.keptSpec).at F).post enc Tryz.prog Tryz.f11 false true false false):=by
 obtain ⟨places,i⟩:=reads os enc
 refine returnsInHanded_of_row (C:=Tryz.checked) (s:=OpenSpec.ofChange Rows.keptSpec) own started (by kernel_rfl) Tryz.func11
  (witness_row_at (enc:=enc) (C:=Tryz.checked) false (mr os) #[.int .i64 0,.slice none 0 0,.int .i64 0,.int .i64 0,.int .i64 0] rfl (by kernel_rfl) (by kernel_rfl) (by kernel_rfl)
   (OpenSpec.preRow_of_cond 8 i (by kernel_rfl) (fun k hk=>by cases hk) (by kernel_rfl) (wF os))) ?_
 intro W base args j gs before b l _ _ m o d _
 exact contract H enc W base args j gs before b l o m d
theorem said:Rows.KeptSaid :=
 OpenClaim.holds_of_cond 11 Tryz.f11 rfl rfl rfl rfl rfl rfl rfl ⟨rfl,rfl,rfl,rfl,rfl⟩ rfl rfl rfl rfl rfl (by kernel_rfl) Tryz.func11 (by kernel_rfl)
  (dE (by kernel_rfl)) (by unfold Func.isWrapper;first | (rw [aD (by decide +kernel)];kernel_rfl) | (rw [au (by decide +kernel)];exact ⟨rfl,rfl⟩))
  (fun os started H enc _ F=>by rw [OpenClaim.pre_eq_preRow];exact lifted os started H enc F)
theorem plain (f : FuncId) (fn : Func) (l : Tryz.pinned.checked.prog.funcNamed "overlay/overlaykeep.Kept" = some f) (i : Tryz.pinned.checked.prog.funcs[f]? = some fn) :
  true=Tryz.pinned.checked.prog.looks []∧∀ (j:Nat) t,fn.params[j]?=some t→Tryz.pinned.checked.prog.wantsStandIn t=false:=by
 obtain rfl : f = 11 := Option.some.inj ((show Tryz.prog.funcNamed "overlay/overlaykeep.Kept" = some 11 by kernel_rfl).symm.trans l) |>.symm
 obtain rfl:fn=Tryz.f11:=(Option.some.inj (Tryz.func11.symm.trans i)).symm
 refine ⟨by kernel_rfl,fun j t b => ?_⟩
 rw [Tryz.params11] at b
 have hm:=Array.mem_of_getElem? b
 simp only [List.mem_toArray,aP,fh,or_false] at hm
 have d:∀ t∈[3,73,3,3,3],Tryz.prog.wantsStandIn t=false:=by
  intro t b
  simp only [aP,fh,or_false] at b
  rcases b with rfl | rfl | rfl | rfl | rfl <;> kernel_rfl
 exact d t (by simpa using hm)
theorem card:Rows.KeptCardSaid :=
 Claim7.holds_tied_plain_at .later [] _ _ _ _ said (fun _ h=>by cases h) (by kernel_rfl) (fun _ h=>by cases h) kept_row_tie rfl ⟨rfl,rfl⟩ (by kernel_rfl) rfl plain (by kernel_rfl)
end Go.Proofs.YtkkfmkhbdoeglabGreatDoor.keptLaw
