/- An agent whose disk has failed acknowledges nothing more, keeps its version and its tables, and goes on behind a Start (P13): the statement Silent, for every input. Condition: the package-level variables that errors.As and the table shapes read hold what the program's text lays there (the card ties them to that text). -/
import Derived.Test.YtkkfmkhbdoeglaaGreatDoorG00
import Derived.Test.YtkkfmkhbdoeglaaGreatDoorG47
import Derived.Test.YtkkfmkhbdoeglaaGreatDoorG48
set_option maxRecDepth 100000
namespace Go.Proofs.YtkkfmkhbdoeglaaGreatDoor.silentLaw
open Go.ChangeShapes Go.WideShapes Go.ChangeAt Go.RowKit
theorem vars {W:World} (hs:2≤W.heap.size) (h:laidMetH Tryz.prog Rows.silentRow.laid W):ErrVar W∧ShapesVar W :=
 ⟨⟨hs, qz (aA.2 rfl) (show laidMet Tryz.prog [("overlay/overlay.shapes", Rows.laid_overlay_overlay_shapes)] W ∧ handlesMet Tryz.prog [("errors.errorType", Rows.laid_errors_errorType)] W from h).2⟩, tA hs (show laidMet Tryz.prog [("overlay/overlay.shapes", Rows.laid_overlay_overlay_shapes)] W ∧ handlesMet Tryz.prog [("errors.errorType", Rows.laid_errors_errorType)] W from h).1⟩
theorem Eu (os:Os):laidMetH Tryz.prog Rows.silentRow.laid ((pP os).forCall (fun _ _=>0) ⟨#[],#[.slice none 0 0,.int .i64 0,.slice none 0 0],[]⟩).memory :=
 laidMetH_of_parts (Ay os _) (by kernel_rfl)
theorem contract (H:Type) (enc:TypeId×Value→H) (W:World) (base:Nat) (args:Array Value) (s gs:List (DataW H)) (before:List MemPlace)
  (b:∀ (j:Nat) t v,Tryz.f3.params[j]?=some t→args[j]?=some v→Value.okWide Tryz.prog W .any base t v)
  (D:DataW.Whole enc Tryz.prog Tryz.f3.params.toList Rows.silentSpec.vars false W args.toList s gs before) (E:laidMetH Tryz.prog Rows.silentRow.laid W)
  (u:(DataW.weightsEach Tryz.prog (Tryz.f3.params.toList++(OpenSpec.ofChange Rows.silentSpec).bare.plain.varTypes Tryz.prog) (s++gs)).all (·≤reachBytes)=true) (o:W.ShapedOpen Tryz.prog) :
  Calls Tryz.prog 3 args W fun e W'=>∃ v,e = .returned v∧Rows.silentSpec.post enc Tryz.prog Tryz.f3 false true false false W args v W':=by
 have i:=CO o
 clear o
 have F:=D
 have d:=vars i E
 obtain ⟨p,q,r,R,rfl,Z,aa⟩:=D
 have G:DataW.TrodAll enc Tryz.prog W 0 (fun _=>true) true Tryz.f3.params.toList args.toList s p:=r
 rw [Tryz.params3] at G b u
 have I:=ab u
 clear u r E
 obtain ⟨v0,ag,d0,ak,p0,q0,m,rfl,rfl,S,r0⟩:=trodAll_cons G
 obtain ⟨v1,al,d1,am,p1,q1,rfl,rfl,rfl,h1,r1⟩:=trodAll_cons r0
 obtain ⟨v2,ap,d2,av,p2,q2,rfl,rfl,rfl,h2,r2⟩:=trodAll_cons r1
 obtain ⟨rfl,rfl,rfl⟩:=trodAll_nil r2
 obtain rfl:args=#[v0,v1,v2]:=by
  obtain ⟨l⟩:=args
  exact bG Array.mk m
 obtain ⟨rfl,rfl⟩:=trodVars_none R
 obtain ⟨U,J⟩:=vF Tryz.underlying22 (b 0 22 v0 rfl rfl) S (fun h=>si h (wj I.out 0 rfl rfl))
 obtain ⟨V,rfl,M⟩:=FI Tryz.underlying3 (b 1 3 v1 rfl rfl) h1
 obtain ⟨N,O⟩:=bounds_i64 M
 obtain ⟨X,Q⟩:=vF Tryz.underlying22 (b 2 22 v2 rfl rfl) h2 (fun h=>si h (wj I.out 2 rfl rfl))
 obtain ⟨aE,x,y⟩:=J.view
 obtain ⟨a0,B,C⟩:=Q.view
 refine (zF U X V _ _ W y C (fun l hl=>(x l hl).2) B (by omega) (by omega) ⟨N,O⟩ d.2 d.1).mono fun e W' ⟨he,Y⟩ => ?_
 subst he
 exact ⟨_,rfl,E2 F rfl (by kernel_rfl) Tryz.underlying4 rfl rfl rfl laidOut (by decide +kernel) Y⟩
theorem reads (os:Os) {H:Type} (enc:TypeId×Value→H):∃ places,DataW.whole enc Tryz.prog ((pP os).forCall (fun _ _=>0) ⟨#[],#[.slice none 0 0,.int .i64 0,.slice none 0 0],[]⟩).memory Tryz.f3.params.toList Rows.silentSpec.vars false (#[.slice none 0 0,.int .i64 0,.slice none 0 0]:Array Value).toList 8=some ([.nil,.lit (.int .i64 0),.nil],[],places) :=
 ⟨[],by kernel_rfl⟩
theorem lifted (os:Os) (started:os.Started) (H:Type) (enc:TypeId×Value→H) (F:Stop.Interp) :
  ReturnsInHanded {} Tryz.checked os 3 .any ((OpenSpec.ofChange Rows.silentSpec).preRow enc Tryz.prog Tryz.f3 Rows.silentRow.domain false Rows.silentRow.laid) (((OpenSpec.ofChange Rows.silentSpec).at F).post enc Tryz.prog Tryz.f3 false true false false):=by
 obtain ⟨places,i⟩:=reads os enc
 refine returnsInHanded_of_row (C:=Tryz.checked) (s:=OpenSpec.ofChange Rows.silentSpec) own started (by kernel_rfl) Tryz.func3
  (witness_row_at (enc:=enc) (C:=Tryz.checked) false (pP os) #[.slice none 0 0,.int .i64 0,.slice none 0 0] rfl (by kernel_rfl) (by kernel_rfl) (by kernel_rfl)
   (OpenSpec.preRow_of_cond 8 i (by kernel_rfl) (fun k hk=>by cases hk) (by kernel_rfl) (Eu os))) ?_
 intro W base args j gs before b l _ _ m o d _
 exact contract H enc W base args j gs before b l o m d
theorem said:Rows.SilentSaid :=
 OpenClaim.holds_of_cond 3 Tryz.f3 rfl rfl rfl rfl rfl rfl rfl ⟨rfl,rfl,rfl,rfl,rfl⟩ rfl rfl rfl rfl rfl (by kernel_rfl) Tryz.func3 (by kernel_rfl)
  (dM (by kernel_rfl)) (by unfold Func.isWrapper;first | (rw [aB (by decide +kernel)];kernel_rfl) | (rw [au (by decide +kernel)];exact ⟨rfl,rfl⟩))
  (fun os started H enc _ F=>by rw [OpenClaim.pre_eq_preRow];exact lifted os started H enc F)
theorem plain (f : FuncId) (fn : Func) (l : Tryz.pinned.checked.prog.funcNamed "overlay/overlaykeep.Silent" = some f) (i : Tryz.pinned.checked.prog.funcs[f]? = some fn) :
  true=Tryz.pinned.checked.prog.looks []∧∀ (j:Nat) t,fn.params[j]?=some t→Tryz.pinned.checked.prog.wantsStandIn t=false:=by
 obtain rfl : f = 3 := Option.some.inj ((show Tryz.prog.funcNamed "overlay/overlaykeep.Silent" = some 3 by kernel_rfl).symm.trans l) |>.symm
 obtain rfl:fn=Tryz.f3:=(Option.some.inj (Tryz.func3.symm.trans i)).symm
 refine ⟨by kernel_rfl,fun j t b => ?_⟩
 rw [Tryz.params3] at b
 have hm:=Array.mem_of_getElem? b
 simp only [List.mem_toArray,aT,List.not_mem_nil,or_false] at hm
 have d:∀ t∈[22,3,22],Tryz.prog.wantsStandIn t=false:=by
  intro t b
  simp only [aT,List.not_mem_nil,or_false] at b
  rcases b with rfl | rfl | rfl <;> kernel_rfl
 exact d t (by simpa using hm)
theorem card:Rows.SilentCardSaid :=
 Claim7.holds_tied_plain_at .later [] _ _ _ _ said (fun _ h=>by cases h) (by kernel_rfl) (fun _ h=>by cases h) silent_row_tie rfl ⟨rfl,rfl⟩ (by kernel_rfl) rfl plain (by kernel_rfl)
end Go.Proofs.YtkkfmkhbdoeglaaGreatDoor.silentLaw
