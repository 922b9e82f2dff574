/- Lemmas of the proof. No condition. -/
import Derived.Carry
import Derived.ChangeSame
import Derived.Deep.DeepHandedRow
import Derived.Deep.Fields
import Derived.Deep.Slices
import Derived.LaidHandle
import Derived.LaidLaws
import Derived.Lib.LaidTab
import Derived.OpenShut
import Derived.Test.YtkkfmkhbdoeglabGreatDoorCards
import Derived.Test.YtkkfmkhbdoeglabGreatDoorTie
import Derived.WideKeyArgs
import Derived.Test.YtkkfmkhbdoeglabGreatDoorG24
set_option maxHeartbeats 4000000
set_option maxRecDepth 100000
namespace Go.Proofs.YtkkfmkhbdoeglabGreatDoor
open Go renaming World->Q0,Value->Q4,TypeId->Ri,undef->Rj
open Go.IntKind renaming i64->Y
open Go.Obj renaming cells->Q1
open Go.Value renaming int->I,pointer->Q5,string->Q7,agg->Q9,tuple->Rc,bool->Rh
open Go.World renaming heap->Q,cell?->Rn,alloc->Ro
open List renaming length->O,toArray->Rm
open Option renaming none->J,some->N
open _root_.Array renaming size->G
open Go.Proofs.Tryz
open Go.RowKit
variable{S:Vd}{n:Int}{v:Q4}{w:Q0}{x:Option iV}
theorem J2.agg{d:Q0}(h:J2 d w v x):∃(b:Bool) (i j:Int) (s1:Option Addr) (l c1:Nat) (s2:Option Addr) (o c2:Nat),v=Q9 #[Rh b,I .u64 i,I .u64 j,.slice s1 l c1,.slice s2 o c2]:=by
 match x,h with
 | none,h=>exact⟨_,_,_,_,_,_,_,_,_,h⟩
 | some (.delta m os),⟨s,h,q⟩=>obtain⟨a,c,rfl⟩:=q.shape;exact⟨_,_,_,_,_,_,_,_,_,h⟩
 | some (.nG m T),⟨tv,h,r,_⟩=>obtain⟨-,a,c,rfl,-,-⟩:=r;exact⟨_,_,_,_,_,_,_,_,_,h⟩
theorem J2.Qj{D:Ve}{w3 o w5:Q0}(h:J2 w3 o v x)(q:G (Q w)<=G (Q w3))(i:gR D o w5)(r:∀j,D j->j<G (Q w3)):J2 w w5 v x:=by
 match x,h with
 | none,h=>exact h
 | some (.delta m os),⟨y,h,s⟩=>exact⟨y,h,(gS.mono s q).frame i.size fun b e d=>i.block b d fun l=>by have:=s.ie b e;have:=r b l;omega⟩
 | some (.nG m T),⟨tv,h,B,d⟩=>exact⟨tv,h,gE.frame B fun b e u=>i.block b u fun l=>by have:=(d b e).1;have:=r b l;omega,fun j e=>⟨au q (d j e).1,ae (d j e).2 i.size⟩⟩
open Go.Shelf
attribute [local go_sem] Oper.semAt_some
theorem Ka(c:UInt8)(w:Q0):(Go.convert 5 3 (I .u8 (c.toNat:Int))).run prog w=.ok (I Y (c.toNat:Int)) w:=by have:=c.toNat_lt;simp[go_sem];exact IntWalk.i64_in _ (by omega)
theorem KH{b:Vd}{x:E}(h:b++[x] <+: S)(d:∀y∈b,pX n y=false)(i:pX n x=true):wJ n S=Rc #[I Y ((x.2.getD 1 0).toNat:Int),Rh true]:=by obtain⟨t,rfl⟩:=h;have h1:b.find? (pX n)=J:=ez.2 (fun y j=>by rw[d y j];decide);unfold wJ;rw[bJ,List.find?_append,h1,List.singleton_append,dL,i];rfl
theorem Mw(b:∀y∈S,pX n y=false):wJ n S=Rc #[I Y 0,Rh false]:=by have h1:S.find? (pX n)=J:=ez.2 (fun y d=>by rw[b y d];decide);unfold wJ;rw[h1]
theorem Oh(q off r:Nat)(S:Vd)(n:Int)(w:Q0)(he:jt w q off r S)(hS:O S<=1000000000)(hA:Ac S):
  Calls prog 196 #[Q5 (N ⟨q,off,J⟩),I Y n] w fun e w'=>e=.returned (wJ n S)/\Below (G (Q w)) w w':=by
 refine(callsIn_wide (n:=9)).1 ?_;refine callsIn_of_wp_marks func196 rfl cK ?_ rfl
 try simp only[ntmps196,dG,ao,aI,Nat.reduceAdd,Nat.reduceSub,bd,bf,bK,cY,aQ,aV]
 gi_wp2_with (refine⟨cK,(callsIn_wide.2 (tV q off _)).mono ?_⟩;rintro e w0 ⟨rfl,rfl⟩)
 have bN:=(((Boxed.new w 3 (I Y n)).alloc (Q1 #[I Y 0] 3)).alloc (Q1 #[Rh false] 4)).alloc (Q1 #[Q5 (N ⟨q,off,J⟩)] 219);have bR:=((Boxed.new (Ro w (Q1 #[I Y n] 3)) 3 (I Y 0)).alloc (Q1 #[Rh false] 4)).alloc (Q1 #[Q5 (N ⟨q,off,J⟩)] 219);have cc:=(Boxed.new ((Ro w (Q1 #[I Y n] 3)).alloc (Q1 #[I Y 0] 3)) 4 (Rh false)).alloc (Q1 #[Q5 (N ⟨q,off,J⟩)] 219);have bE:=Boxed.new (((Ro w (Q1 #[I Y n] 3)).alloc (Q1 #[I Y 0] 3)).alloc (Q1 #[Rh false] 4)) 219 (Q5 (N ⟨q,off,J⟩));simp only[aj]at bR cc bE;have av:Below (G (Q w)) w ((((Ro w (Q1 #[I Y n] 3)).alloc (Q1 #[I Y 0] 3)).alloc (Q1 #[Rh false] 4)).alloc (Q1 #[Q5 (N ⟨q,off,J⟩)] 219)):=((((gJ w).alloc gH _).alloc (by simp) _).alloc (by simp;omega) _).alloc (by simp;omega) _;have bs:((((Ro w (Q1 #[I Y n] 3)).alloc (Q1 #[I Y 0] 3)).alloc (Q1 #[Rh false] 4)).alloc (Q1 #[Q5 (N ⟨q,off,J⟩)] 219)).heap.size=G (Q w)+4:=by simp
 obtain⟨W0,a5⟩:∃W0,(((Ro w (Q1 #[I Y n] 3)).alloc (Q1 #[I Y 0] 3)).alloc (Q1 #[Rh false] 4)).alloc (Q1 #[Q5 (N ⟨q,off,J⟩)] 219)=W0:=⟨_,rfl⟩;rw[a5]at bN bR cc bE av bs⊢;clear a5;have bt:=he.below av;have hq:=he.lt;have hr:=he.jh.lt
 refine wpIn_rangeFunc_ownH rfl (by omega) (gf:=135) (lb:=#[Q5 (N ⟨G (Q w)+3,0,J⟩)]) rfl cK (enters_of func135 (by kernel_rfl) rfl)
  (pN (β:={x:E // x∈S}) Subtype.val S.attach (9-1) (G (Q w)+3) q off r S (dx S) W0 (by omega) bE.cell bt hS) (fun h k=>jq.trans h k)
  (fun W l o o' hl ho hc _=>⟨by simp,(fun k hk=>World.putObj_heap_other (by rcases hk with rfl|rfl|rfl<;>omega)),(fun k cs fz hk=>(World.putObj_heap_other (fun e=>by subst e;rw[hk]at ho;cases ho;cases hc)).trans hk)⟩) (kz) (fun _=>rfl)
  (fun pre W=>((((Boxed W (G (Q w)+3) 219 (Q5 (N ⟨q,off,J⟩))/\Boxed W (G (Q w)) 3 (I Y n))/\Boxed W (G (Q w)+1) 3 (I Y 0))/\Boxed W (G (Q w)+2) 4 (Rh false))/\Below (G (Q w)) w W)/\∀y∈pre,pX n y.1=false)
  (fun c pre W=>c=.ret/\∃x p0,pre=p0++[x]/\(∀y∈p0,pX n y.1=false)/\pX n x.1=true/\Boxed W (G (Q w)+1) 3 (I Y ((x.1.2.getD 1 0).toNat:Int))/\Boxed W (G (Q w)+2) 4 (Rh true)/\Below (G (Q w)) w W)
  (OwnFrom.and (OwnFrom.and (OwnFrom.and (OwnFrom.and (OwnFrom.and (Own.from (boxed_own _ _ _) _) (Own.from (boxed_own _ _ _) _)) (Own.from (boxed_own _ _ _) _)) (Own.from (boxed_own _ _ _) _)) (ownFrom_below gH (by omega))) (ownFrom_pure _ _))
  (fun c s X b row hs hg hr=>by obtain⟨rfl,x,p0,e,h1,d,i,m,B⟩:=hs;exact⟨rfl,x,p0,e,h1,d,(Own.from (boxed_own (β:=Unit) _ _ (fun _=>_)) _) () X b row i hg hr,(Own.from (boxed_own (β:=Unit) _ _ (fun _=>_)) _) () X b row m hg hr,(ownFrom_below (β:=Unit) gH (by omega)) () X b row B hg hr⟩)
  ⟨⟨⟨⟨⟨bE,bN⟩,bR⟩,cc⟩,av⟩,fun y C=>by cases C⟩
  (fun x a' W=>∃R,G (Q w)+3<R/\W.heap[R]?=N (Q1 #[I Y x.1.1.1,Q7 ⟨Rm x.1.1.2⟩] 103 (0,0))/\a'={tmps:=#[Q5 (N ⟨q,off,J⟩),I Y n,Rj,Q5 (N ⟨G (Q w),0,J⟩),Q5 (N ⟨G (Q w)+1,0,J⟩),Q5 (N ⟨G (Q w)+2,0,J⟩),Q5 (N ⟨R,0,J⟩),Q7 ⟨Rm x.1.2⟩,Q5 (N ⟨q,off,J⟩),.func (.func 135) #[] #[Q5 (N ⟨G (Q w)+3,0,J⟩)],Q9 #[I Y x.1.1.1,Q7 ⟨Rm x.1.1.2⟩],Q7 ⟨Rm x.1.2⟩,Rj,Rj,Rj,Rj,Rj,Rj,Rj,Rj,Rj,Rj,Rj,Rj,Rj,Rj,Rj,Rj,Rj,Rj],defers:=[]})
  (fun x a' _ X b row hs hg hr=>by obtain⟨R,h1,d,i⟩:=hs;exact⟨R,h1,(hg.block R (gm d) (fun e=>by obtain⟨-,o,ho,hc⟩:=hr R e.symm;rw[d]at ho;cases ho;cases hc)).trans d,i⟩)
  ?assign ?body ?done ?stop
 case assign=>
  rintro l pre x W K ⟨⟨⟨⟨⟨Z,h1⟩,d⟩,i⟩,m⟩,B⟩ hK;unfold kV nd
  gi_wp2
  exact hK _ _ ((KeepsOthers.alloc _ _).from _) (jq.iN ((gJ W).alloc gH _) Z.lt (by have:=m.size;omega) (by have:=m.size;omega)) ⟨⟨⟨⟨⟨Z.alloc _,h1.alloc _⟩,d.alloc _⟩,i.alloc _⟩,m.alloc m.size _⟩,B⟩ ⟨G (Q W),Z.lt,gB W _,rfl⟩
 case body=>
  rintro l pre ⟨⟨⟨kt,kb⟩,u⟩,ag⟩ a' W hl ⟨rr,b0⟩ ⟨⟨⟨⟨⟨Z,h1⟩,d⟩,i⟩,m⟩,B⟩ ⟨R,b1,bX,rfl⟩ b3;have x0:=gr 0 bX;have hn:=h1.cell;have hR:=d.cell;have hB:=i.cell;have fR:=d.frozen;have fB:=i.frozen;have a6:=hA _ ag;simp only at a6 x0;have b4:=m;have hG:pX n ((kt,kb),u)=false->∀y∈pre++[⟨((kt,kb),u),ag⟩],pX n y.1=false:=fun h y C=>by
   rcases bQ.1 C with C|C
   .exact B y C
   .rw[ay.1 C];exact h
  have HG:=gj hG;clear hG;by_cases hT:kt=2
  .subst hT;obtain⟨U,vc,V⟩:=a6 rfl;have b5:=U.toNat_lt;have b6:=vc.toNat_lt;have i0:∀w,(Instr.index 9 (Q7 ⟨Rm u⟩) (I Y 0)).run prog w=.ok (I .u8 U.toNat) w:=fun w=>by rw[V];exact gW underlying9 _ _ 0 U (by decide) rfl w
   have i1:∀w,(Instr.index 9 (Q7 ⟨Rm u⟩) (I Y 1)).run prog w=.ok (I .u8 vc.toNat) w:=fun w=>by rw[V];exact gW underlying9 _ _ 1 vc (by decide) rfl w
   have c0:=Ka U;have c1:=Ka vc;have hz:∀c:UInt8,(c==0)=decide ((c.toNat:Int)=0):=fun c=>by rw[cS,aT,fU];exact⟨fun e=>by rw[e];rfl,fun e=>dO.1 (by rw[show c.toNat=0 by omega];rfl)⟩
   have hP:pX n ((2,kb),u)=(decide ((U.toNat:Int)=0) || ((U.toNat:Int)==n)):=by rw[V];simp only[pX,fh];rw[hz];rfl
   have HP:=gj hP;have a7:gy (u.getD 1 0=vc):=gj (by rw[V];rfl);clear hz hP V;cases e0:((U.toNat:Int)==0) with
   | true=>
    have F:gy (pX n ((2,kb),u)=true):=gj (by rw[HP.o,bh (aT.1 e0)];rfl)
    gi_wp2_with fail
    refine lZ 14 (by kernel_rfl) (by kernel_rfl) (by kernel_rfl) ?_;simp only[aN,bp,cN,bC]
    repeat still_step
    refine wpStill_nil ?_
    gi_wp2
    have sB:Boxed W.drew (G (Q w)+1) 3 (I Y 0):=d;have sC:Boxed W.drew (G (Q w)+2) 4 (Rh false):=i;have a1:Below (G (Q w)) w W.drew:=m.drew;have M:KeepsOthers W W.drew:=KeepsOthers.of_grownBy (row:=J) ⟨rfl,rfl,rfl,aq _,fun _ _ _=>rfl⟩ (fun j o e=>by cases e);exact⟨((M.trans (KeepsOthers.setCell _ _ _)).trans (KeepsOthers.setCell _ _ _)).from _,rfl,⟨((2,kb),u),ag⟩,pre,rfl,B,F.o,by have:=(sB.set (I Y (vc.toNat:Int))).other (by omega:G (Q w)+1≠G (Q w)+2) (Rh true);show Boxed _ _ _ (I Y ((u.getD 1 0).toNat:Int));rw[a7.o];exact this,(sC.other (by omega:G (Q w)+2≠G (Q w)+1) _).set _,(a1.setCell (p:=⟨G (Q w)+1,0,J⟩) (by simp) _).setCell (p:=⟨G (Q w)+2,0,J⟩) (by simp) _⟩
   | false=>
    cases e1:((U.toNat:Int)==n) with
    | true=>
     have F:gy (pX n ((2,kb),u)=true):=gj (by rw[HP.o,e1,Bool.or_true])
     gi_wp2_with fail
     refine lZ 14 (by kernel_rfl) (by kernel_rfl) (by kernel_rfl) ?_;simp only[aN,bp,cN,bC]
     repeat still_step
     refine wpStill_nil ?_
     gi_wp2
     have sB:Boxed W.drew (G (Q w)+1) 3 (I Y 0):=d;have sC:Boxed W.drew (G (Q w)+2) 4 (Rh false):=i;have a1:Below (G (Q w)) w W.drew:=m.drew;have M:KeepsOthers W W.drew:=KeepsOthers.of_grownBy (row:=J) ⟨rfl,rfl,rfl,aq _,fun _ _ _=>rfl⟩ (fun j o e=>by cases e);exact⟨((M.trans (KeepsOthers.setCell _ _ _)).trans (KeepsOthers.setCell _ _ _)).from _,rfl,⟨((2,kb),u),ag⟩,pre,rfl,B,F.o,by have:=(sB.set (I Y (vc.toNat:Int))).other (by omega:G (Q w)+1≠G (Q w)+2) (Rh true);show Boxed _ _ _ (I Y ((u.getD 1 0).toNat:Int));rw[a7.o];exact this,(sC.other (by omega:G (Q w)+2≠G (Q w)+1) _).set _,(a1.setCell (p:=⟨G (Q w)+1,0,J⟩) (by simp) _).setCell (p:=⟨G (Q w)+2,0,J⟩) (by simp) _⟩
    | false=>
     have F:gy (pX n ((2,kb),u)=false):=gj (by rw[HP.o,e1,Bool.or_false];exact aF (ar.1 e0))
     gi_wp2_with fail
     refine lZ 14 (by kernel_rfl) (by kernel_rfl) (by kernel_rfl) ?_;simp only[aN,bp,cN,bC]
     repeat still_step
     refine wpStill_nil ?_
     gi_wp2
     have M:KeepsOthers W W.drew:=KeepsOthers.of_grownBy (row:=J) ⟨rfl,rfl,rfl,aq _,fun _ _ _=>rfl⟩ (fun j o e=>by cases e);exact⟨M.from _,⟨aq _,fun _ _=>rfl,fun _ _ _ h=>h⟩,⟨⟨⟨⟨Z,h1⟩,d⟩,i⟩,m.drew⟩,HG.o F.o⟩
  .have F:gy (pX n ((kt,kb),u)=false):=gj (by simp[pX,hT])
   gi_wp2_with fail
   refine lZ 14 (by kernel_rfl) (by kernel_rfl) (by kernel_rfl) ?_;simp only[aN,bp,cN,bC]
   repeat still_step
   refine wpStill_nil ?_
   gi_wp2
   have M:KeepsOthers W W.drew:=KeepsOthers.of_grownBy (row:=J) ⟨rfl,rfl,rfl,aq _,fun _ _ _=>rfl⟩ (fun j o e=>by cases e);exact⟨M.from _,⟨aq _,fun _ _=>rfl,fun _ _ _ h=>h⟩,⟨⟨⟨⟨Z,h1⟩,d⟩,i⟩,m.drew⟩,HG.o F.o⟩
 case done=>
  rintro D ys W hD rfl ⟨⟨⟨⟨⟨Z,h1⟩,d⟩,i⟩,m⟩,B⟩ hK;have HV:=gj (Mw (S:=S) (n:=n) (fun y C=>B ⟨y,C⟩ (List.mem_attach _ _)));have hR:=d.cell;have hB:=i.cell;have fR:=d.frozen;have fB:=i.frozen;have ak:D≠G (Q w)+1:=by rintro rfl;have:=hK.symm.trans d;cases this
  have al:D≠G (Q w)+2:=by rintro rfl;have:=hK.symm.trans i;cases this
  have a8:((World.setCell W ⟨G (Q w)+1,0,J⟩ (I Y 0)).setCell ⟨G (Q w)+2,0,J⟩ (Rh false)).heap[D]?=N (.deferred (N [])):=by rw[Below.heap_setCell _ ⟨G (Q w)+2,0,J⟩ _ D al,Below.heap_setCell _ ⟨G (Q w)+1,0,J⟩ _ D ak];exact hK
  have b2:Boxed ((World.setCell W ⟨G (Q w)+1,0,J⟩ (I Y 0)).setCell ⟨G (Q w)+2,0,J⟩ (Rh false)) (G (Q w)+1) 3 (I Y 0):=(d.set _).other (by omega) _;have cd:Boxed ((World.setCell W ⟨G (Q w)+1,0,J⟩ (I Y 0)).setCell ⟨G (Q w)+2,0,J⟩ (Rh false)) (G (Q w)+2) 4 (Rh false):=(i.other (by omega) _).set _
  have bB:Below (G (Q w)) w ((World.setCell W ⟨G (Q w)+1,0,J⟩ (I Y 0)).setCell ⟨G (Q w)+2,0,J⟩ (Rh false)):=(m.setCell (p:=⟨G (Q w)+1,0,J⟩) (by simp) _).setCell (p:=⟨G (Q w)+2,0,J⟩) (by simp) _
  gi_wp2
  refine⟨by simp,.inl ⟨_,_,rfl,run_takeDeferred a8,?_⟩⟩;have p2:=(b2.kept (grownBy_putObj' _ D (.deferred J)) (fun e=>ak (by cases e;rfl))).cell;have p3:=(cd.kept (grownBy_putObj' _ D (.deferred J)) (fun e=>al (by cases e;rfl))).cell;exact⟨Rc #[I Y 0,Rh false],by simp[results,results196,go_sem,p2,p3],by rw[HV.o],bB.trans (belowK_b (w:=w) gH _ D _ _ (by omega) a8 rfl rfl)⟩
 case stop=>
  rintro D c pre W hD hp ⟨rfl,x,p0,rfl,h1,d,i,m,B⟩ hK;have bD:p0.map Subtype.val++[x.1] <+: S:=by
   have:=hp.map Subtype.val
   rwa [dx,bj]at this
  have HV:=gj (KH bD (fun y C=>by obtain⟨z,hz,rfl⟩:=aA.1 C;exact h1 z hz) d);have ak:D≠G (Q w)+1:=by rintro rfl;have:=hK.symm.trans i;cases this
  have al:D≠G (Q w)+2:=by rintro rfl;have:=hK.symm.trans m;cases this
  gi_wp2
  refine⟨by simp,.inl ⟨_,_,rfl,run_takeDeferred hK,?_⟩⟩;have p2:=(i.kept (grownBy_putObj' _ D (.deferred J)) (fun e=>ak (by cases e;rfl))).cell;have p3:=(m.kept (grownBy_putObj' _ D (.deferred J)) (fun e=>al (by cases e;rfl))).cell;exact⟨Rc #[I Y ((x.1.2.getD 1 0).toNat:Int),Rh true],by simp[results,results196,go_sem,p2,p3],by rw[HV.o],B.trans (belowK_b (w:=w) gH W D _ _ (by omega) hK rfl rfl)⟩
end Go.Proofs.YtkkfmkhbdoeglabGreatDoor
namespace Go.Proofs.YtkkfmkhbdoeglabGreatDoor
open Go renaming World->Q0,Value->Q4,TypeId->Ri,undef->Rj
open Go.IntKind renaming i64->Y
open Go.Obj renaming cells->Q1
open Go.Value renaming int->I,pointer->Q5,string->Q7,agg->Q9,tuple->Rc,bool->Rh
open Go.World renaming heap->Q,cell?->Rn,alloc->Ro
open List renaming length->O,toArray->Rm
open Option renaming none->J,some->N
open _root_.Array renaming size->G
open Go.Proofs.Tryz
open Go.RowKit
variable{C fuel n y:Nat}{W W':Q0}{cs:List Q4}{e:Ri}{k:IntKind}
theorem AA(n:Int)(l:Vd):∃(a:Int) (b:Bool),wJ n l=Rc #[I Y a,Rh b]:=by unfold wJ;split<;>exact⟨_,_,rfl⟩
theorem Bu(s:gw)(l:Vd):∃(a:gw) (b:Bool),yI s l=Rc #[Q7 ⟨Rm a⟩,Rh b]:=by
 unfold yI;split
 .exact⟨_,_,rfl⟩
 .exact⟨[],_,rfl⟩
theorem E7(o:Option gw):∃(a:gw) (b:Bool),qj o=Rc #[Q7 ⟨Rm a⟩,Rh b]:=by
 unfold qj;split
 .exact⟨_,_,rfl⟩
 .exact⟨[],_,rfl⟩
theorem BT(s:gw)(l:Vd):∃(a:gw) (b:Bool),E6 s l=Rc #[Q7 ⟨Rm a⟩,Rh b]:=by unfold E6;split<;>exact E7 _
theorem CU(v:Q4)(l:Vd)(s:gw)(w:Q0)(h:iD w v l)(hl:O l<=1000000000)(m:gM l)(o:wI l)(j:O s<=im):
  Calls prog 168 #[v,Q7 ⟨Rm s⟩] w fun e w'=>e=.returned (E6 s l)/\Below (G (Q w)) w w':=by
 by_cases i:O s=4
 .obtain⟨a,b,c,d,rfl⟩:=Ak i;exact E0 v l a b c d w h hl m o
 .have e:E6 s l=qj J:=by
   unfold E6;split
   .exact absurd rfl i
   .rfl
  rw[e];exact BP v l s w j i
structure yp(w:Q0)(fb q r:Nat)(v:Q4)(S:Vd):Prop where
 t:sE w fb q r S
 l:iD w v S
theorem yp.below{w w':Q0}{fb q r:Nat}{v:Q4}{S:Vd}(h:yp w fb q r v S)(b:Below (G (Q w)) w w'):yp w' fb q r v S:=⟨h.t.below b,gE.below h.l b⟩
structure Oe(S:Vd):Prop where
 len:O S<=1000000000
 size:jw S<=4611686018427387904
 sorted:gM S
 acls:Ac S
 routes:wI S
open Go.ChangeShapes Go.WideShapes Go.ChangeAt
theorem own:ownKnob prog.godebug=J:=by kernel_rfl
theorem Qy:prog.globalNamed "errors.errorType" = N 0:=by kernel_rfl
theorem Qe:(prog.cutTypes.find? (·.1 == "internal/reflectlite.rtype")).map (·.2)=N 286:=by kernel_rfl
theorem PD:((List.range 370).filter fun t=>prog.rowNamed t [101,114,114,111,114])=[128]:=by kernel_rfl
theorem Me:prog.types.size=370:=by kernel_rfl
theorem rI{l:List (String×DataW Unit)}(hm:("errors.errorType",(Rows.laid_errors_errorType:DataW Unit))∈l)(h:handlesMet prog l W):
  Rn W ⟨0,0,J⟩=N (.iface 286 (Q9 #[Q5 (N ⟨2,128,J⟩)])):=by
 obtain⟨name,u,ty,d,i,j,m,b⟩:=h _ hm;have o:name=[101,114,114,111,114]:=(Option.some.inj d).symm;subst o;obtain rfl:=Option.some.inj (Qe.symm.trans i);have hm:ty∈(List.range 370).filter fun t=>prog.rowNamed t [101,114,114,111,114]:=cF.2 ⟨dC.2 (by rw[<-Me];exact j),m⟩;rw[PD]at hm;obtain rfl:=ay.1 hm;have q:typeHandle prog 128=Q5 (N ⟨2,128,J⟩):=by kernel_rfl
 rw[q]at b;simpa using World.var?_cell Qy b 0
noncomputable def qe (os:Os):Q0:=
 let b:=World.holding prog os ⟨#[],#[],[]⟩
 {b with heap:=(b.heap.modify 0 fun
   | Q1 _ t frozen=>Q1 #[.iface 286 (Q9 #[Q5 (N ⟨2,128,none⟩)])] t frozen
   | o=>o).modify 1 fun
   | Q1 _ t frozen=>Q1 #[I Y 6,I Y 4,I Y 5,I Y 4,I Y 2,I Y 2] t frozen
   | o=>o}
section
variable {H:Type} {enc:Ri×Q4->H} {P:Program}
theorem wC(hl:laidOutB P=true)(o:Below (G (Q W)) W W'):∀(ts:List Ri) (i:List Q4) (j:List (DataW H)) (ps:List MemPlace),
  (∀t∈ts,P.readableRec t=true/\t<P.types.size)->DataW.TrodAll enc P W 0 (fun _=>true) true ts i j ps->(∀x∈ps,x.block<G (Q W))->
  DataW.TrodAll enc P W' 0 (fun b=>decide (b<G (Q W))) true ts i j ps
 | [],[],[],_,_,h,_=>h
 | t::ts,v::i,d::j,ps,r,h,l=>by
  obtain⟨p,q,h1,u,rfl⟩:=h;have s:=r t cy
  exact⟨p,q,Below.trod hl s.1 s.2 h1 o (fun x m=>l x (fA _ m)),
   wC hl o ts i j q (fun t' y=>r t' (aR _ y)) u (fun x m=>l x (List.mem_append_right _ m)),rfl⟩
 | [],_::_,_,_,_,h,_=>h.elim
 | [],[],_::_,_,_,h,_=>h.elim
 | _::_,[],_,_,_,h,_=>h.elim
 | _::_,_::_,[],_,_,h,_=>h.elim
theorem Gs{f:Func}{s:ChangeSpec}{args:Array Q4}{d gs:List (DataW H)}{b:List MemPlace}{r:Ri}(m:DataW.Whole enc P f.params.toList s.vars false W args.toList d gs b)(u:s.vars=[])(E:f.resultTypes=#[r])(F:P.underlying r=N .bool)(o:(s.fn H (d++gs)).results=[.lit (.bool true)])(j:(s.fn H (d++gs)).args=d)(l:(s.fn H (d++gs)).vars=[])(hl:laidOutB P=true)(M:∀t∈f.params.toList,P.readableRec t=true/\t<P.types.size)(y:Below (G (Q W)) W W'):
  s.post enc P f false true false false W args (Rh true) W':=by
 have B:∀x∈b,x.block<G (Q W):=fun x i=>m.lt x i;have C:=m;obtain⟨p,q,h1,D,rfl,_,_⟩:=m;rw[u]at D;obtain⟨rfl,rfl⟩:=trodVars_none D;refine⟨d,[],p++[],[],p,[],C,?_,?_,?_,World.keptBut_mono (fun x i=>⟨i,.inr (.inl (by simpa using i))⟩) (y.frame (·∈p++[])),fun h=>by cases h⟩
 .rw[E,o];exact⟨[],[],shut_bool F true,rfl,rfl⟩
 .rw[j];exact wC hl y _ _ _ _ M h1 (fun x i=>B x (fA _ i))
 .rw[u,l];rfl
end
theorem QV:laidOutB prog=true:=by kernel_rfl
theorem DY(h:W.ShapedOpen prog):2<=G (Q W):=by
 have hc:(((begin prog (fun _ _=>0) default).world.heap[1]?).bind Obj.row?).isSome=true:=by kernel_rfl
 obtain⟨⟨z,t⟩,d⟩:=cR.1 hc;obtain⟨cs,b,_⟩:=h.1 1 z t (by show 1<prog.globals.size;exact(by kernel_rfl:prog.globals.size=2)▸(by decide)) d;exact(cx.1 b).1
open Go.Deep
def qb{α:Type}(t:Ri)(R:Q0->List Q4->α->Prop):Prop:=
 ∀{H:Type} {enc:Ri×Q4->H} {w:Q0} {base:Nat} {spare:Nat->Bool} {held:Bool} {fuel:Nat} {cs:List Q4} {x:DataW H×List MemPlace},
  DataW.trod enc prog w base spare held fuel t cs=N x->(∀y∈x.1.weights prog t,y<=reachBytes)->∃a:α,R w cs a
def Cq(k:IntKind)(_:Q0)(cs:List Q4)(n:Int):Prop:=cs=[I k n]/\(Lit.int k n).wf=true
theorem Jb{t:Ri}(b:prog.underlying t=N (.int k)):qb t (Cq k):=by intro H enc w base spare held fuel cs x h _;obtain⟨z,hc,rfl,d⟩:=DataW.trod_int b h;exact⟨z,hc,d⟩
def KF(_:Q0)(cs:List Q4)(l:gw):Prop:=cs=[Q7 ⟨Rm l⟩]/\O l<=reachBytes
theorem CM{t:Ri}(b:prog.underlying t=N .string):qb t KF:=by intro H enc w base spare held fuel cs x h d;obtain⟨⟨⟨l⟩⟩,rfl,rfl,-⟩:=DataW.trod_string b h;exact⟨l,rfl,d (O l) (by simp[DataW.weights])⟩
def yr{α:Type}(C:Nat)(m:Nat)(R:Q0->List Q4->α->Prop)(w:Q0)(cs:List Q4)(l:List α):Prop:=
 O l<=m/\∃a cap,cs=[.slice a (O l) cap]/\O l<=cap/\∀i (h:i<O l),∃b off,a=N ⟨b,off,J⟩/\∃d,O d=C/\(∀j,j<C->Rn w ⟨b,off+i*C+j,J⟩=d[j]?)/\R w d l[i]
theorem uU{H:Type}{P:Program}{d:DataW H}: ∀{l:List (DataW H)},d∈l->y∈d.weights P e->y∈DataW.weightsAll P e l
 | [],h,_=>by cases h
 | x::l,h,b=>by
  simp only[DataW.weightsAll,bQ];rcases aZ.1 h with rfl|h
  .exact .inl b
  .exact .inr (uU h b)
theorem LW{w:Q0}{a:Addr}{v:Q4}(h:Rn w a=N v):a=⟨a.block,a.off,J⟩:=by
 obtain⟨b,o,s⟩:=a;unfold World.cell? at h;split at h
 .split at h
  .cases h
  .rename_i d;cases s with
   | none=>rfl
   | some _=>simp at d
 .cases h
theorem ug{α:Type}[Inhabited α]{R:Q0->List Q4->α->Prop}{t:Ri}{m:Nat}(M:prog.underlying t=N (.slice e))(hC:prog.cellsOf e=C)(r:0<C)(S:∀n,n*prog.bytesOf e<=reachBytes->n<=m)(hR:qb e R):
  qb t (yr C m R):=by
 intro H enc w base spare held fuel cs x h s;rcases open_slice M h with ⟨rfl,rfl⟩|⟨a,len,cap,mm,n,D,Pl,rfl,hb,hl,hm,U,rfl,hx⟩
 .exact⟨[],aJ _,J,0,rfl,aq _,fun i d=>absurd d (by simp)⟩
 .have av:len<=mm:=by rw[U];split<;>omega
  simp only[DataW.weights,M]at s;have hW:∀i,i<len->∀y∈(D i).weights prog e,y<=reachBytes:=fun i d y hy=>by refine s y (aR _ (fA _ ?_));exact uU (aA.2 ⟨i,dC.2 d,rfl⟩) hy
  have u:len<=m:=by refine S len ?_;have:=s _ cy;simp only[aB,List.length_range]at this;exact au (cQ _ (fE _ _)) this
  obtain⟨V,W⟩:=choose_lt (α:=α) (n:=len) (p:=fun i v=>∃b,O b=C/\(∀j,j<C->Rn w (a.add (i*C+j))=b[j]?)/\R w b v) (fun i d=>by obtain⟨b,h1,h2⟩:=hx i (by omega);rw[hC]at h1;obtain⟨_,o,l⟩:=World.cells?_some h1;obtain⟨v,B⟩:=hR h2 (hW i d);exact⟨v,b,o,fun j E=>by rw[<-add_add];exact l j E,B⟩);refine⟨(List.range len).map V,by simpa using u,N a,cap,by simp,by simpa using hl,fun i d=>?_⟩;have X:i<len:=by simpa using d
  obtain⟨b,Z,l,B⟩:=W i X;have q:∃v,Rn w (a.add (0*C+0))=N v:=by obtain⟨c0,aE,F,_⟩:=W 0 (by omega);rw[F 0 r];exact⟨c0[0],ah (by omega)⟩
  obtain⟨v0,q⟩:=q;have ha:a=⟨a.block,a.off,J⟩:=by
   have:a.add (0*C+0)=a:=by simp[Addr.add]
   rw[this]at q;exact LW q
  refine⟨a.block,a.off,by rw[<-ha],b,Z,fun j E=>?_,by simpa using B⟩;have:=l j E;rw[ha,fC]at this;rw[bT];exact this
theorem qS{H:Type}{P:Program}: ∀{ts:List Ri} {j:List (DataW H)} {i:Nat} {t:Ri} {d:DataW H},ts[i]?=N t->j[i]?=N d->y∈d.weights P t->y∈DataW.weightsEach P ts j
 | [],_,i,_,_,h,_,_=>by simp at h
 | _::_,[],i,_,_,_,h,_=>by simp at h
 | t'::ts,d'::j,0,t,d,h1,b,l=>by simp only[aY,dz]at h1 b;subst h1 b;simp only[DataW.weightsEach,bQ];exact .inl l
 | t'::ts,d'::j,i+1,t,d,h1,b,l=>by simp only[aX]at h1 b;simp only[DataW.weightsEach,bQ];exact .inr (qS h1 b l)
theorem mw{H:Type}{enc:Ri×Q4->H}{w:Q0}{base:Nat}{spare:Nat->Bool}{held:Bool}{x:DataW H×List MemPlace}{t:Ri}{fs:Array Field}(j:prog.underlying t=N (.struct fs))(h:DataW.trod enc prog w base spare held fuel t cs=N x)(o:∀y∈x.1.weights prog t,y<=reachBytes){α:Type}{R:Q0->List Q4->α->Prop}(i:Nat)(f:Field)(b:fs[i]?=N f)(q:qb f.type R):
  O cs=prog.cellsOf t/\∃a:α,R w ((cs.drop f.offset).take (prog.cellsOf f.type)) a:=by
 obtain⟨xs,n,-,rfl,hl,l,r⟩:=DataW.trod_struct j h;have m:i<O xs:=by rw[l];exact(cx.1 b).1
 have h1:=r i f b;rw[ah m]at h1;refine⟨hl,q h1 fun y s=>o y ?_⟩;simp only[DataW.weights,j];refine qS (i:=i) (t:=f.type) (d:=xs[i].1) ?_ ?_ s
 .rw[bg,Array.getElem?_toList,b];rfl
 .rw[bg,ah m];rfl
theorem Cq.i64{w:Q0}{n:Int}(h:Cq Y w cs n):-9223372036854775808<=n/\n<=9223372036854775807:=bounds_i64 h.2
def QZ{H:Type}(t:Ri)(d:DataW H):Prop:=∀y∈d.weights prog t,y<=reachBytes
theorem vS{H:Type}{ts:List Ri}{b:List (DataW H)}(h:(DataW.weightsEach prog ts b).all (·<=reachBytes)=true)(i:Nat){t:Ri}{d:DataW H}(j:ts[i]?=N t)(l:b[i]?=N d):QZ t d:=
 fun y m=>dh (eP.1 h y (qS j l m))
section
variable {H:Type} {enc:Ri×Q4->H} {P:Program} {w:Q0} {base b0:Nat} {spare:Nat->Bool} {held:Bool} {t:Ri} {v:Q4} {d:DataW H} {p:List MemPlace}
theorem vF{α:Type}{R:Q0->List Q4->α->Prop}(b:P.underlying t=N (.slice e))(i:Value.okWide P w .any b0 t v)(h:DataW.Trod enc P w base spare held t v d p)(j:∀{fuel:Nat} {cs:List Q4},DataW.trod enc P w base spare held fuel t cs=N (d,p)->∃a,R w cs a):∃a,R w [v] a:=by obtain⟨a,len,cap,rfl⟩:=okWide_slice b i;obtain⟨fuel,l⟩:=h;exact j l
theorem J7(b:P.underlying t=N (.int k))(i:Value.okWide P w .any b0 t v)(h:DataW.Trod enc P w base spare held t v d p):∃n,v=I k n/\(Lit.int k n).wf=true:=by obtain⟨m,rfl⟩:=okWide_int b i;obtain⟨fuel,j⟩:=h;obtain⟨n,h1,-,l⟩:=DataW.trod_int b j;exact⟨n,by simpa [Value.cells]using h1,l⟩
end
theorem wX:qb 9 KF:=CM underlying9
def O8:=Cq Y
theorem po:qb 3 O8:=Jb underlying3
def Mo:=yr 1 17592186044416 O8
theorem MF:prog.bytesOf 3=8:=by kernel_rfl
theorem zA:qb 22 Mo:=ug underlying22 (by kernel_rfl) (by omega) (fun n h=>by rw[MF]at h;unfold reachBytes at h;omega) po
theorem Mo.view{w:Q0}{v:Q4}{l:Vf}(h:Mo w [v] l):O l<=im/\(∀x∈l,-9223372036854775808<=x/\x<=9223372036854775807)/\gE w v 1 (O l) (l.map fun x=>I Y x):=by
 obtain⟨hm,a,cap,s,hc,m⟩:=h;cases s;refine⟨by unfold im;omega,fun x o=>?_,by simp,a,cap,rfl,hc,fun i d=>?_⟩
 .obtain⟨i,d,rfl⟩:=cZ o;obtain⟨b,off,-,q,-,-,j⟩:=m i d;exact j.i64
 .rw[aB]at d;obtain⟨b,off,rfl,q,hl,r,j⟩:=m i d;refine⟨b,off,rfl,?_⟩;have:=r 0 (by omega);rw[j.1]at this;simpa using this
theorem Br(h:O cs=2):∃a b,cs=[a,b]:=by
 match cs,h with
 | [a,b],_=>exact⟨a,b,rfl⟩
theorem Gu(h:O cs=4):∃a b c d,cs=[a,b,c,d]:=by
 match cs,h with
 | [a,b,c,d],_=>exact⟨a,b,c,d,rfl⟩
theorem On:prog.cellsOf 3=1:=by kernel_rfl
theorem Pw:prog.cellsOf 9=1:=by kernel_rfl
theorem Qc:prog.cellsOf 103=2:=by kernel_rfl
theorem QJ:prog.cellsOf 105=4:=by kernel_rfl
theorem Qx:prog.cellsOf 49=1:=by kernel_rfl
theorem Om:prog.bytesOf 105=48:=by kernel_rfl
def P6(_:Q0)(cs:List Q4)(k:Int×gw):Prop:=cs=[I Y k.1,Q7 ⟨Rm k.2⟩]/\-9223372036854775808<=k.1/\k.1<=9223372036854775807/\O k.2<=reachBytes
theorem Jc:qb 103 P6:=by intro H enc w base spare held fuel cs x h d;obtain⟨hl,a,ha⟩:=mw underlying103 h d 0 _ rfl po;obtain⟨-,s,b⟩:=mw underlying103 h d 1 _ rfl wX;have ha:O8 w ((cs.drop 0).take (prog.cellsOf 3)) a:=ha;have b:KF w ((cs.drop 1).take (prog.cellsOf 9)) s:=b;rw[On]at ha;rw[Pw]at b;rw[Qc]at hl;obtain⟨c0,c1,rfl⟩:=Br hl;obtain⟨h1,-⟩:=ha;have i:=Cq.i64 ha;obtain⟨j,l⟩:=b;simp at h1 j;subst h1 j;exact⟨(a,s),rfl,i.1,i.2,l⟩
theorem EM(h:n<=reachBytes):n<=im:=au h (by decide)
instance:Inhabited kv:=⟨⟨0,0,[],[]⟩⟩
def QI(_:Q0)(cs:List Q4)(o:kv):Prop:=cs=[I Y o.kind,I Y o.table,Q7 ⟨Rm o.key⟩,Q7 ⟨Rm o.val⟩]/\O o.key<=im/\O o.val<=im/\
 (-9223372036854775808<=o.kind/\o.kind<=9223372036854775807)/\(-9223372036854775808<=o.table/\o.table<=9223372036854775807)
theorem LA:qb 105 QI:=by intro H enc w base spare held fuel cs x h i;obtain⟨hl,a,ha⟩:=mw underlying105 h i 0 _ rfl po;obtain⟨-,k,hk⟩:=mw underlying105 h i 1 _ rfl Jc;obtain⟨-,s,b⟩:=mw underlying105 h i 2 _ rfl wX;have ha:O8 w ((cs.drop 0).take (prog.cellsOf 3)) a:=ha;have hk:P6 w ((cs.drop 1).take (prog.cellsOf 103)) k:=hk;have b:KF w ((cs.drop 3).take (prog.cellsOf 9)) s:=b;rw[On]at ha;rw[Qc]at hk;rw[Pw]at b;rw[QJ]at hl;obtain⟨c0,c1,c2,c3,rfl⟩:=Gu hl;obtain⟨h1,-⟩:=ha;have r:=Cq.i64 ha;obtain⟨d,j,l,m⟩:=hk;obtain⟨o,q⟩:=b;simp at h1 d o;obtain⟨d,u⟩:=d;subst h1 d o u;exact⟨⟨a,k.1,k.2,s⟩,rfl,EM m,EM q,r,j,l⟩
def KD:=yr 4 2932031007402 QI
theorem Je:qb 49 KD:=ug underlying49 QJ (by omega) (fun n h=>by rw[Om]at h;unfold reachBytes at h;omega) LA
theorem K6{w:Q0}{b off:Nat}{xs:List Q4}(d:0<C)(hl:O xs=n*C)(h:∀i,i<n->∀j,j<C->Rn w ⟨b,off+i*C+j,J⟩=xs[i*C+j]?):∀k (hk:k<O xs),Rn w ⟨b,off+k,J⟩=N xs[k]:=by
 intro k hk;have h1:k / C<n:=Nat.div_lt_of_lt_mul (by rw[Nat.mul_comm];omega);have l:k%C<C:=Nat.mod_lt _ d;have e:k / C*C+k%C=k:=by rw[Nat.mul_comm];exact Nat.div_add_mod k C
 have:=h (k / C) h1 (k%C) l;rw[bT,e]at this;rw[this];exact ah hk
theorem KD.view{w:Q0}{v:Q4}{l:List kv}(h:KD w [v] l):O l<=2932031007402/\uJ l/\jE w v l:=by
 obtain⟨hm,a,cap,y,hc,q⟩:=h;cases y;refine⟨hm,fun o B=>?_,?_⟩
 .obtain⟨i,d,rfl⟩:=cZ B;obtain⟨b,off,-,s,-,-,m⟩:=q i d;exact⟨m.2.1,m.2.2.1⟩
 .refine⟨oy l,a,cap,rfl,hc,fun k hk=>?_⟩;have r:0<O l:=by rw[oy]at hk;omega
  obtain⟨b,off,rfl,-⟩:=q 0 r;refine⟨b,off,rfl,K6 (C:=4) (n:=O l) (by omega) (oy l) (fun i d j u=>?_) k hk⟩;obtain⟨R,D,he,s,hl,x,m⟩:=q i d;cases he;rw[x j u,m.1];obtain⟨e0,E,F,M⟩:=wW l i d
  match j,u with
  | 0,_=>exact e0.symm
  | 1,_=>exact E.symm
  | 2,_=>exact F.symm
  | 3,_=>exact M.symm
def Ps(w:Q0)(cs:List Q4)(d:Nat×List kv):Prop:=∃b,cs=[I .u64 d.1,b]/\d.1<18446744073709551616/\KD w [b] d.2
theorem LO{H:Type}{enc:Ri×Q4->H}{w:Q0}{base:Nat}{spare:Nat->Bool}{held:Bool}{a b:Int}{p:List MemPlace}(h:DataW.trod enc prog w base spare held fuel 311 cs=N (.agg [.lit (.int .i64 a),.lit (.int .i64 b)],p)):cs=[I Y a,I Y b]:=by
 obtain⟨xs,n,-,q,hl,r,j⟩:=DataW.trod_struct underlying311 h;have d:=j 0 _ rfl;have h1:=j 1 _ rfl;have c:prog.cellsOf 311=2:=by kernel_rfl
 have d:DataW.trod enc prog w base spare held n 3 ((cs.drop 0).take (prog.cellsOf 3))=xs[0]?:=d;have h1:DataW.trod enc prog w base spare held n 3 ((cs.drop 1).take (prog.cellsOf 3))=xs[1]?:=h1;rw[On]at d h1;rw[c]at hl;obtain⟨c0,c1,rfl⟩:=Br hl;have i:xs.map (·.1)=[.lit (.int .i64 a),.lit (.int .i64 b)]:=by have:=bm Prod.fst q;simpa using this.symm
 have e0:(xs.map (·.1))[0]?=N (.lit (.int .i64 a)):=by rw[i];rfl
 have l:(xs.map (·.1))[1]?=N (.lit (.int .i64 b)):=by rw[i];rfl
 rw[bg]at e0 l;obtain⟨s,g0,f0⟩:=cH.1 e0;obtain⟨u,g1,f1⟩:=cH.1 l;rw[g0]at d;rw[g1]at h1;obtain⟨z0,m,rfl,-⟩:=DataW.trod_int underlying3 d;obtain⟨x,o,rfl,-⟩:=DataW.trod_int underlying3 h1;simp at m o f0 f1;rw[m,o,f0,f1]
theorem vj(R:2≤G (Q W))(h:laidMet prog [("overlay/overlay.shapes",Rows.laid_overlay_overlay_shapes)] W):gZ W:=by
 obtain⟨ps,⟨g',t',cs,fuel,p,q,B,C,s,d,_,_⟩,_⟩:=h;have D:prog.globalNamed "overlay/overlay.shapes" = N 1:=by kernel_rfl
 obtain rfl:=Option.some.inj (D.symm.trans B);have S:(prog.globals[1]?).map (·.type)=N 312:=by kernel_rfl
 obtain rfl:=Option.some.inj (S.symm.trans C);have ce:prog.cellsOf 311=2:=by kernel_rfl
 have ct:prog.cellsOf 312=6:=by kernel_rfl
 have l:∀i a b,((Rows.laid_overlay_overlay_shapes:DataW Unit)=.agg [.agg [.lit (.int .i64 6),.lit (.int .i64 4)],.agg [.lit (.int .i64 5),.lit (.int .i64 4)],.agg [.lit (.int .i64 2),.lit (.int .i64 2)]])->
   ([.agg [.lit (.int .i64 6),.lit (.int .i64 4)],.agg [.lit (.int .i64 5),.lit (.int .i64 4)],.agg [.lit (.int .i64 2),.lit (.int .i64 2)]]:List (DataW Unit))[i]?=N (.agg [.lit (.int .i64 a),.lit (.int .i64 b)])->
   cs[i*2]?=N (I Y a)/\cs[i*2+1]?=N (I Y b):=by
  intro i a b u E;rw[u]at d;cases fuel with
  | zero=>simp[DataW.trod]at d
  | succ n=>
   simp only[DataW.trod,underlying312,ce,ct]at d;split at d
   .obtain⟨xs,hm,U⟩:=cH.1 d;have m:=bm Prod.fst U;simp only[DataW.agg.injEq]at m;rw[<-m,bg]at E;obtain⟨y,F,o⟩:=cH.1 E;have M:i<3:=by have h1:=(aH.1 F).1;have V:=Lib.mapM_length hm;rw[List.length_range]at V;omega
    obtain⟨Z,r,X⟩:=Lib.mapM_at hm i i (by rw[List.getElem?_range M]);rw[F]at r;obtain rfl:=Option.some.inj r;obtain⟨y1,y2⟩:=y;simp only at o;subst o;have:=LO X;have e0:=bm (·[0]?) this;have x:=bm (·[1]?) this;simp only[List.getElem?_take,dP]at e0 x;simp at e0 x;exact⟨e0,x⟩
   .cases d
 have j:=World.var?_cell D s;have r0:=l 0 6 4 rfl rfl;have r1:=l 1 5 4 rfl rfl;have r2:=l 2 2 2 rfl rfl;exact⟨R,(j 0).trans (by simpa using r0.1),(j 1).trans (by simpa using r0.2),(j 2).trans (by simpa using r1.1),(j 3).trans (by simpa using r1.2),(j 4).trans (by simpa using r2.1),(j 5).trans (by simpa using r2.2)⟩
theorem BX(os:Os)(args:Array Q4):laidMet prog [("overlay/overlay.shapes",Rows.laid_overlay_overlay_shapes)] ((qe os).forCall (fun _ _=>0) ⟨#[],args,[]⟩).memory:=
 laidMet_of_run' 8 (by kernel_rfl) (by kernel_rfl)
end Go.Proofs.YtkkfmkhbdoeglabGreatDoor
