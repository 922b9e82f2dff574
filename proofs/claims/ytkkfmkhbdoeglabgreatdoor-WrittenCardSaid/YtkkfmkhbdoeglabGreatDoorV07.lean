/- Lemmas of the proof. No condition. -/
import Derived.Deep.RegionWith
import Derived.Laws.CopyOwn
import Derived.LoopNIn
import Derived.Maps.AppendAt
import Derived.OwnWalkIn
import Derived.RangeFuncBound
import Derived.RangeFuncBox
import Derived.RangeFuncCalls
import Derived.RangeFuncGives
import Derived.RangeFuncLeaves
import Derived.RangeFuncMany
import Derived.RangeFuncNested
import Derived.Shelf.RegionOpen
import Derived.Shelf.SlSortCmp.NoneTotal
import Derived.StillTailTactics
import Derived.Test.YtkkfmkhbdoeglabGreatDoorV06
set_option maxHeartbeats 4000000
set_option maxRecDepth 100000
namespace Go.Proofs.YtkkfmkhbdoeglabGreatDoor
open Go renaming World->Q0,Value->Q4,Calls->Rg
open Go.Ending renaming returned->Ra
open Go.IntKind renaming i64->Y
open Go.Obj renaming cells->Q1
open Go.Value renaming int->I,pointer->Q5,slice->Q6,string->Q7
open Go.World renaming heap->Q,cell?->Rn,alloc->Ro
open List renaming length->O,toArray->Rm
open Option renaming none->J,some->N
open _root_.Array renaming size->G
open Go.Proofs.Tryz
open Go.RowKit Go.Shelf
variable{F:Nat->Prop}{S:List E}{b q r:Nat}{l pre:List (K×Q4)}{os:List kv}{v:Q4}{w w':Q0}
theorem Mj(h:Nat)(F:Nat->Prop)(H:gA)(n:Nat)(dv:Q4)(data:gw)(w:Q0)(S:iU w F h H)(q:gI w dv data)(X:O data<=64)(hn:n<O H.gG)(_hl:O H.gG<=1000)(B:H.jM=true):
  Rg prog 252 #[.agg #[Q5 (N ⟨h,0,J⟩)],I Y (n:Nat),dv] w fun e w'=>∃v,e=Ra v/\oF w w' v (n+2)/\iU w' F h H.jy/\gR F w w':=by
 obtain⟨x,b⟩:=S;obtain⟨g,cap,C,-,-⟩:=b.gG.get;obtain⟨da,dc,rfl,-,-⟩:=q.gU;have d:Below (G (Q w)) w (Ro w (Q1 #[Q5 (N ⟨h,0,J⟩)] 217)):=(gJ w).alloc gH _;have i:=b.frame d.size fun k hk=>d.block k (b.lt k hk);have j:=i.dp.row;have Z:=b.dp.row.lt;have D:=gB w (Q1 #[Q5 (N ⟨h,0,J⟩)] 217);have rc:=gr 0 D;have r:x.fail=0:=by rw[b.fail];simpa [gA.jM]using B
 have E:=gj (qc h x _ j (by omega) (by omega));unfold iQ HV.cells at j;rw[C]at j;have c1:=gr 1 j;have U:=gj d;have V:=gj i;have M:=gj r;have W:gy (F h):=gj b.qL.1;have aa:¬(O H.gG)<=n:=by omega
 have ag:¬(64:Int)<O data:=by omega
 clear b i C j D d B r q;go_enter func252,ntmps252;go_wp2_with fail;refine E.o.mono ?_;rintro e w1 ⟨rfl,s,u,l⟩;rw[M.o];have y:=gj (V.o.jy s u l);have R:=gj l;clear s l;go_wp2;go_ret;have m:Below (G (Q w1)) w1 (Ro w1 (Q1 #[I Y (n:Int)] 191)):=(gJ w1).alloc gH _;refine⟨_,rfl,⟨_,rfl,dS _,?_⟩,⟨_,y.o.frame m.size fun k hk=>m.block k (y.o.lt k hk)⟩,?_⟩
 .have h1:=gB w1 (Q1 #[I Y (n:Int)] 191);rw[u,aj]at h1;rw[h1,show((n+2:Nat):Int)-2=(n:Int) by omega]
 .exact((gR.gO U.o).trans (R.o.mono fun k e=>by rw[e];exact W.o)).trans (gR.gO m)
theorem Nq(data:gw)(_hl:O data<=64):splice (madeCells #[I .u8 0] 64).toList 0 (l6 data)=l6 (mL data):=by have e:(madeCells #[I .u8 0] 64).toList=List.replicate 64 (I .u8 0):=eM _ _;rw[e];unfold splice mL;rw[oC,bp,aQ,bY,lJ,List.drop_replicate];unfold l6;rw[List.map_replicate];rfl
theorem JS(h:Nat)(F:Nat->Prop)(H:gA)(n:Nat)(dv:Q4)(data:gw)(w:Q0)(hh:iU w F h H)(a3:gI w dv data)(cs:∀k,Value.ownBlock dv=N k->¬F k)(aa:O data<=64)(hn:n<O H.gG)(_hl:O H.gG<=1000)(hf:H.jM=false)(ct:-1<=H.fail/\H.fail<=9223372036854775807)(hw:0<=H.il/\H.il<=1000000000000)(e6:O H.gX<=1000000000):
  Rg prog 252 #[.agg #[Q5 (N ⟨h,0,J⟩)],I Y (n:Nat),dv] w fun e w'=>e=Ra .nilIface/\kc w F (fun _=>False) h (H.write n (mL data)).1 w':=by
 obtain⟨x,q⟩:=hh;obtain⟨g,cap,hv,cd,ce⟩:=q.gG.get;obtain⟨f7,f8,rfl,-,cv⟩:=a3.gU;have ag:Below (G (Q w)) w (Ro w (Q1 #[Q5 (N ⟨h,0,J⟩)] 217)):=(gJ w).alloc gH _;have a4:=q.frame ag.size fun k hk=>ag.block k (q.lt k hk);have H0:=a4.dp.row;have e7:=q.dp.row.lt;have R0:=gB w (Q1 #[Q5 (N ⟨h,0,J⟩)] 217);have rc:=gr 0 R0;have bD:decide (x.fail=0)=false:=by rw[q.fail];exact hf
 have cB:=gj (qc h x _ H0 (by rw[q.fail];omega) (by rw[q.fail];omega));unfold iQ HV.cells at H0;rw[hv]at H0;have c1:=gr 1 H0;have e8:¬(O H.gG)<=n:=by omega
 have c0:¬(64:Int)<O data:=by omega
 have HB:=gj ag;have HX:=gj a4;have c2:=gj bD;have c3:=gj hf;have HF:gy (F h):=gj q.qL.1;have a6:=gj hv;have c4:=gj R0;have c5:=gj a3
 have e9:∀w,(Instr.makeSlice 112 (I Y 64) (I Y 64)).run prog w=.ok (Q6 (N ⟨G (Q w),0,J⟩) 64 64) (Ro w (Q1 (madeCells #[I .u8 0] 64) 5)):=fun w=>
  run_make_row' 112 5 (I .u8 0) 1 underlying112 (by kernel_rfl) rfl Y Y 64 (by omega) (by omega) w
 clear q a4 hv H0 R0 ag hf bD ct ce cd a3 cv;go_enter func252,ntmps252;go_wp2_with fail;refine cB.o.mono ?_;rintro e w1 ⟨rfl,bE,a7,ak⟩;rw[c2.o];have bH:=gj (HX.o.jy bE a7 ak);have R:G (Q w)≠h:=by omega
 have bI:=gj (ak.at R c4.o);have bL:gy (gR F w w1):=gj ((gR.gO HB.o).trans (ak.mono fun k e=>by rw[e];exact HF.o));clear bE ak rc c1;have a8:G (Q w1)=G (Q w)+1:=by rw[a7];simp
 clear a7;have cl:gy (gI w1 (Q6 f7 (O data) f8) data):=gj (gE.frame c5.o fun b e hb=>bL.o.block b hb (cs b e));have bM:0<O data->∃ad:Addr,f7=N ad/\∀(j:Nat) (v:Q4),(l6 data)[j]?=N v->Rn w1 (ad.add j)=N v:=fun h0=>by obtain⟨a',c',e,-,q⟩:=cl.o.gU;obtain⟨rfl,-,rfl⟩:=Value.slice.inj e;obtain⟨b,off,rfl,-⟩:=q 0 h0;refine⟨_,rfl,fun j v hj=>?_⟩;obtain⟨bN,e⟩:=aH.1 hj;rw[lJ]at bN;obtain⟨b',eD,e',hc⟩:=q j bN;cases e';rw[fC,hc,<-e];simp[l6]
 have bO:=gj bM;clear bM;go_wp2_with (with_reducible refine wpList_copy_splice rfl (.tmp 35) (.tmp 36) _ _ rfl 5 underlying112 (by kernel_rfl) _ _ _ _ _ _ rfl rfl (G (Q w1)) 0 (madeCells #[I .u8 0] 64).toList 5 ?_ (l6 data) ?_ ?_ ?_ ?_ (G (Q w1)) w1 ?_ gH ?_)
 .exact gB w1 _
 .rw[lJ];exact(Nat.min_eq_left aa).symm
 .intro h0;rw[lJ]at h0;obtain⟨ad,e,q⟩:=bO.o h0;refine⟨by rw[a8],ad,e,fun j v hj=>?_⟩;have h1:=q j v hj;exact(aS (w:=w1) (heap_alloc_old w1 _ (gK h1))).trans h1
 .rw[eM,lJ,bV];omega
 .exact sw data
 .exact(gJ w1).alloc gH _
 intro w2 a9 B;rw[<-a8]at B;rw[Nq data aa]at a9;have c6:=gj B;have l:gy (ji w2 F h _ _):=gj (bH.o.frame B.size fun k hk=>B.block k (bH.o.lt k hk));have am:=gj ((B.block _ (gm bI.o)).trans bI.o);have ba:=aa;clear B aa c0 bO;have rc:=gr 0 am.o;have bA:=gj l.o.dp.row.lt;have d:=l.o.dp.row;have fb:=gm am.o;unfold iQ HV.cells at d;simp only at d;have ga:=gr 6 d;have f6:=gD 6 d;have bP:x.il=H.il:=l.o.il;rw[bP]at ga;obtain⟨vals,bR,bb,bS,c7⟩:=l.o.gG;have D:=bR;rw[show HV.gG _=Q6 g (O H.gG) cap from a6.o]at D bb bS;obtain⟨c8,D⟩:=D;rcases D with ⟨e,-⟩|⟨gs,os,cap',e,-,fd,c9,da,dc,bX⟩
 .have gb:=Value.slice.inj e;omega
 obtain⟨rfl,-,rfl⟩:=Value.slice.inj e;rw[show HV.gG _=Q6 (N ⟨gs,os,J⟩) (O H.gG) cap from a6.o]at d;have s1:=gr 1 d;obtain⟨sn,fg⟩:=bX n (by show n<cap*1;have:O H.jy.gG=O H.gG:=rfl;omega);obtain⟨u0,fi⟩:=cR.1 sn;clear sn;obtain⟨Cg,fk,U⟩:=bb gs rfl;have fl:gs≠h:=fun e=>by rw[e,d]at U;cases U
 have dl:gs≠G (Q w):=fun e=>by have h1:=am.o;rw[<-e,U]at h1;cases h1
 have b0:gs≠G (Q w)+1:=fun e=>by have h1:=a9.out;rw[<-e,U]at h1;cases h1
 have dn:=gj b0;clear b0;have fn:=bA.o
 have bc:=gj (l.o.row (w1:=World.setCell w2 ⟨h,6,J⟩ (I Y (H.il+1))) (x':={x with fail:=if x.fail<0 then x.fail else x.fail-1,il:=H.il+1}) (H':={H.jy with il:=H.il+1})
  (QN _ _ 6 _ l.o.dp.row) (QO _ _ _) ((gR.refl _ w2).setCell _ _ (.inl rfl)) ⟨rfl,rfl,rfl,rfl,rfl,rfl⟩ ⟨rfl,rfl,rfl,rfl,rfl,rfl⟩ ⟨l.o.dp.left,l.o.dp.ir,l.o.fail,rfl⟩ l.o.dp.lb)
 obtain⟨W,bi⟩:∃W:HV,W={x with fail:=if x.fail<0 then x.fail else x.fail-1,il:=H.il+1}:=⟨_,rfl⟩;rw[<-bi]at bc;have cp:gy (W.gG=Q6 (N ⟨gs,os,J⟩) (O H.gG) cap):=gj (by rw[bi];exact a6.o);clear bi;have bk:gy ((World.setCell w2 ⟨h,6,J⟩ (I Y (H.il+1))).heap[G (Q w)+1]?=N (Q1 (l6 (mL data)).toArray 5 (0,0))):=gj ((Below.heap_setCell w2 ⟨h,6,J⟩ _ _ (by show(G (Q w))+1≠h;omega)).trans a9.out)
 obtain⟨m,b1,b2⟩:=bc.o.Ku (w':=(World.setCell w2 ⟨h,6,J⟩ (I Y (H.il+1))).setCell ⟨gs,os+n,J⟩ (Q6 (N ⟨G (Q w)+1,0,J⟩) 64 64)) (F':=fun k=>F k\/k=G (Q w)+1) (s:=mL data) (n:=n) cp.o hn
  (l8.I8 bk.o (.inr rfl) (qx ba)) (fun k hk=>.inl hk) (fun k hk=>by rcases hk with hk|rfl;exact bc.o.lt k hk;exact gm bk.o) rfl
 have ds:=gj m;have dT:=gj b2;have fo:=gj b1;have d0:=gj (sp h _ _ m.dp.row (by have:=m.dp.lb;have:=m.dp.left;omega) (by have:=m.dp.lb;have:=m.dp.left;omega));clear m b2 b1;have fp:=l.o.dp.lb;clear bR c7 c8 dc bb bS c9 da bX U d bP;go_wp2_with fail;refine d0.o.mono ?_;rintro e w5 ⟨rfl,b3,b4,V⟩;have C:=gj (ds.o.Kv b3 b4 V);have bl:gy (gR F w w5):=gj (((((bL.o.trans (gR.gO c6.o)).setCell ⟨h,6,J⟩ _ (.inl HF.o))).trans (dT.o)).trans (V.mono fun k e=>by rw[e];exact HF.o));have ap:=gj (V.at R (by rw[Below.heap_setCell _ _ _ _ (dW dl),Below.heap_setCell _ _ _ _ R];exact am.o));have cq:=gj (V.at (b:=G (Q w)+1) (by show(G (Q w))+1≠h;omega) (by rw[Below.heap_setCell _ _ _ _ (dW dn.o)];exact bk.o));have bn:gy (∀k,(F k\/k=G (Q w)+1)->F k\/G (Q w)<=k):=gj fun k hk=>hk.imp id (by omega);have b5:gy (∀L:List (gw×Nat),(L=if H.dp.stop.ir then H.gX else H.gX++[(mL data,n)])->(H.write n (mL data)).1={{H.jy with il:=H.il+1,gG:=H.gG.set n (mL data)}with dp:=H.dp.stop,gX:=L}):=gj (fun L e=>by unfold gA.write;rw[af (by rw[c3.o];decide),e]);have b6:gy (W.stop.ir=H.dp.stop.ir):=gj C.o.dp.ir;clear b3 V b4;cases hdd:W.stop.ir with
 | true=>go_wp2;go_ret;refine⟨rfl,_,⟨W.stop,?_⟩,bn.o,bl.o.mono fun k e=>.inl e⟩;rw[b5.o H.gX (by rw[<-b6.o,hdd];rfl)];exact C.o
 | false=>
  have d:=C.o.dp.row;unfold iQ HV.cells at d;obtain⟨lv,av⟩:∃lv,lv=W.stop.gX:=⟨_,rfl⟩;rw[<-av]at d;have f5:=gr 2 d;have f9:=gD 2 d;have rc:=gr 0 ap.o;have fr:=gm d;have eT:=gm ap.o;clear d;go_wp2;obtain⟨aE,bo,E,y,X,br⟩:=C.o.gX;rw[<-av]at E y X;have bs:=gj (show w5.heap[h]?=_ from C.o.dp.row);have d1:=gj E;have d2:=gj y;have a0:=gj av;have d3:=gj (y.ne bs.o (by decide));have d4:=gj (y.ne ap.o (by decide));have d5:=gj br;have fx:=gj X;have d6:=gj bo;obtain⟨la,eV,bt⟩:=E.shape;have fz:=gj bt;have e0:O H.gX+1<=1000000001:=by omega
  have b8:=fun o=>gj (Below.drew (Below.al (Below.rf w5) o));have d7:=gj (N4 w5 (n:Int) (Q6 (N ⟨G (Q w)+1,0,J⟩) 64 64));have b9:=fun o=>gj (show _/\_ from⟨iK o rc,iK o f5⟩);clear E y X br bo bt av;rw[bU]at rc f5;simp only[aY,aX]at rc f5;refine jI (n:=14) (S:=(fun w'=>Rn w' ⟨G (Q w),0,J⟩=N (Q5 (N ⟨h,0,J⟩))/\Rn w' ⟨h,2,J⟩=N lv)) (by kernel_rfl) (by kernel_rfl) rfl (by first|exact⟨rc,f5⟩|exact(b9 _).out) ?_;intro e1;simp only[cJ,b7,bC,cO,aN,bp,bd,bf,bK,aQ,aV];refine lS [0,1,2,3,4,5,6,7,8,9] ?_
  repeat(refine jx (v:=?_) rfl (by kernel_rfl) (by assumption) (by rfl) (fun _ _ _ h=>h) ?_ ?_;rotate_left 1;(· intro w bv;(try dsimp only at bv);go_simp;(try with_reducible rfl));try simp only[Act.put,List.setIfInBounds_toArray,List.set_cons_zero,List.set_cons_succ])
  refine ka ?_;refine iT 10 (by kernel_rfl) rfl ?_;intro K' hK';go_simp;refine hK'.out _ _ (by first|exact⟨rc,f5⟩|exact(b9 _).out) ?_;clear hK' K';intro e2
  try simp only[az,aG,aK]
  refine iT 11 (by kernel_rfl) rfl ?_;intro K' hK';refine o6 rfl (.tmp 64) (.tmp 68) 121 157 2 32 (.agg #[I Y 0,Q6 J 0 0]) underlying121 PG rfl (by decide) rfl 0 lv (O H.gX) (wi H.gX aE) rfl (by exact d1.o.below (b8 _).out) (by exact d2.o.frame fun b _ hb=>(b8 _).out.block b hb) 1 [I Y (n:Int),Q6 (N ⟨G (Q w)+1,0,J⟩) 64 64] (by exact d7.o) (by intro u hu;simp at hu;rcases hu with rfl|rfl<;>rfl) (by omega) (by omega) ux ?_;intro v7 w7 M r bw ca;obtain⟨bx,Z,rfl⟩:=M.shape;have a1:=gj (lR r d3.o (gP _ (Q1 #[I Y (n:Int),Q6 (N ⟨G (Q w)+1,0,J⟩) 64 64] 157) bs.o));have d9:=gj (lR r d4.o (gP _ (Q1 #[I Y (n:Int),Q6 (N ⟨G (Q w)+1,0,J⟩) 64 64] 157) ap.o));refine hK'.out _ _ ⟨gr 0 d9.o,(gr 2 a1.o).trans (by rw[a0.o];rfl)⟩ ?_;clear hK' K';intro e3
  try simp only[Act.put,az,aG,aK]
  refine lS [12,13] ?_
  repeat(refine jx (v:=?_) rfl (by kernel_rfl) (by assumption) (by rfl) (fun _ _ _ h=>h) ?_ ?_;rotate_left 1;(· intro w bv;(try dsimp only at bv);go_simp;(try with_reducible rfl));try simp only[Act.put,List.setIfInBounds_toArray,List.set_cons_zero,List.set_cons_succ])
  refine ka ?_;refine wpAnyH_done (by kernel_rfl) ?_ _;show Oper.wp _ _ _ _ _ _;have gc:Rn w7 ⟨h,2,J⟩=N lv:=(gr 2 a1.o).trans (by rw[a0.o];rfl);have g9:=gD 2 a1.o;have fB:=gm a1.o;have eb:gy (gR (fun k=>Value.ownBlock lv=N k) w5 w7):=gj ⟨r.os,r.tape,r.output,by have:=r.size;simp at this;omega,fun i hi R=>(r.block i (by simp;omega) (fun e=>R e.symm)).trans (heap_alloc_old _ _ hi)⟩;have ec:=gj M;have ed:=gj bw;have eg:=gj ca;clear M r bw ca rc f5 f9;go_wp2;go_ret;have cr:=C.o.OI (w8:=World.setCell w7 ⟨h,2,J⟩ (Q6 bx (O H.gX+1) Z)) (v7:=Q6 bx (O H.gX+1) Z) (vals:=aE) (u:=Q6 (N ⟨G (Q w)+1,0,J⟩) 64 64) (s:=mL data) (n:=n) d6.o d5.o ?_ ?_ ec.o ed.o ?_ rfl
  .obtain⟨h1,h2⟩:=cr;have ej:iU (World.setCell w7 ⟨h,2,J⟩ (Q6 bx (O H.gX+1) Z)) _ h (H.write n (mL data)).1:=⟨_,by rw[b5.o (H.gX++[(mL data,n)]) (by rw[<-b6.o,hdd];rfl)];exact h1⟩;refine⟨rfl,_,ej,fun k hk=>?_,(bl.o.j8 h2 fun k hk=>bn.o k hk).mono fun k e=>.inl e⟩;rcases hk with hk|hk
   .exact bn.o k hk
   .exact .inr (by have:=bl.o.size;omega)
  .exact l8.I8 cq.o (.inr rfl) (qx ba)
  .rw[<-a0.o];exact eb.o
  .rw[<-a0.o];exact fun b e=>(eg.o b e).imp id (fun e'=>by rw[e'];simp)
theorem sF{α:Type}(b:Nat->Bool):∀(l:List (α×Nat)) (k:Nat) (d:List α) (x:α×Nat),ig b k (l++[x]) d=if b (k+O l)then(ig b k l d).set x.2 x.1 else ig b k l d
 | [],k,d,x=>by simp[ig]
 | y::l,k,d,x=>by rw[aV];unfold ig;rw[sF b l (k+1) _ x,ao,show k+(O l+1)=k+1+O l by omega]
theorem pg.get{gX:List (gw×Nat)}(h:pg w F v gX):∃g cap,v=Q6 g (O gX) cap/\O gX<=cap/\∀(i:Nat) (b:gw×Nat),gX[i]?=N b->∃g0 off u,g=N ⟨g0,off,J⟩/\Rn w ⟨g0,off+i*2,J⟩=N (I Y (b.2:Int))/\Rn w ⟨g0,off+i*2+1,J⟩=N u/\l8 w F u b.1:=by
 obtain⟨vals,S,h1,U,V,o⟩:=h;obtain⟨hl,g,cap,q,hc,j⟩:=h1.sliceAt;refine⟨g,cap,q,hc,fun i b l=>?_⟩;obtain⟨u,r,s⟩:=o i b l;have key:∀(gX:List (gw×Nat)) (vals:List Q4) (i:Nat) (b:gw×Nat) (u:Q4),gX[i]?=N b->vals[i]?=N u->(wi gX vals)[i*2]?=N (I Y (b.2:Int))/\(wi gX vals)[i*2+1]?=N u:=by
  intro gX
  induction gX with
  | nil=>intro vals i b u h;simp at h
  | cons y gX ih=>
   intro vals i b u h k;cases vals with
   | nil=>simp at k
   | cons z vals=>
    have e:wi (y::gX) (z::vals)=I Y (y.2:Int)::z::wi gX vals:=rfl;rw[e];cases i with
    | zero=>simp at h k;subst h k;exact⟨rfl,rfl⟩
    | succ i=>have:=ih vals i b u (by simpa using h) (by simpa using k);rw[show(i+1)*2=i*2+1+1 by omega,show i*2+1+1+1=(i*2+1)+1+1 by omega];simpa using this
 obtain⟨x,B⟩:=key gX vals i b u l r;obtain⟨C,e0⟩:=aH.1 x;obtain⟨D,E⟩:=aH.1 B;obtain⟨g0,off,m,c0⟩:=j _ C;obtain⟨R,M,d,c1⟩:=j _ D;rw[m]at d;cases d;exact⟨g0,off,u,m,by rw[c0,e0],by rw[bT,c1,E],s⟩
theorem iX.store{rows:List gw}(h:iX w F v rows){n:Nat}(o:n<O rows):∃gs os cap u0,v=Q6 (N ⟨gs,os,J⟩) (O rows) cap/\Rn w ⟨gs,os+n,J⟩=N u0/\w.frozen? ⟨gs,os+n,J⟩=false/\(∃C i,w.heap[gs]?=N (Q1 C 112 i))/\F gs:=by
 obtain⟨vals,h1,j,l,q⟩:=h;obtain⟨hl,b⟩:=h1;rcases b with ⟨e,e0⟩|⟨g,off,cap,rfl,-,-,hc,-,r,m⟩
 .omega
 .obtain⟨f1,f2⟩:=m n (by omega);obtain⟨u0,d⟩:=cR.1 f1;exact⟨g,off,cap,u0,rfl,d,f2,j g rfl,l g rfl⟩
theorem pg.nil(w:Q0)(F:Nat->Prop):pg w F (Q6 J 0 0) []:=⟨[],rfl,gS.nil _ _ _,gQ.nil _ _,fun k e=>by simp[Value.ownBlock]at e,fun i b h=>by simp at h⟩
theorem La(h:Nat)(F:Nat->Prop)(H:gA)(w:Q0)(M:iU w F h H)(u:H.jM=true):
  Rg prog 249 #[.agg #[Q5 (N ⟨h,0,J⟩)]] w fun e w'=>∃v,e=Ra v/\oF w w' v 1/\iU w' F h H.jy/\gR F w w':=by
 obtain⟨x,d⟩:=M;have b:Below (G (Q w)) w (Ro w (Q1 #[Q5 (N ⟨h,0,J⟩)] 217)):=(gJ w).alloc gH _;have i:=d.frame b.size fun k hk=>b.block k (d.lt k hk);have y:=i.dp.row;have V:=d.dp.row.lt;have B:=gB w (Q1 #[Q5 (N ⟨h,0,J⟩)] 217);have rc:=gr 0 B;have m:x.fail=0:=by rw[d.fail];simpa [gA.jM]using u
 have C:=gj (qc h x _ y (by omega) (by omega));have R:=gj b;have S:=gj i;have D:=gj m;have U:gy (F h):=gj d.qL.1;clear d i y B b u m;go_enter func249,ntmps249;go_wp2_with fail;refine C.o.mono ?_;rintro e w1 ⟨rfl,q,r,j⟩;rw[D.o];have s:=gj (S.o.jy q r j);have E:=gj j;clear q j;go_wp2;go_ret;have l:Below (G (Q w1)) w1 (Ro w1 (Q1 #[I Y (-1)] 191)):=(gJ w1).alloc gH _;refine⟨_,rfl,⟨_,rfl,dS _,?_⟩,⟨_,s.o.frame l.size fun k hk=>l.block k (s.o.lt k hk)⟩,?_⟩
 .have h1:=gB w1 (Q1 #[I Y (-1)] 191);rw[r,aj]at h1;rw[h1];rfl
 .exact((gR.gO R.o).trans (E.o.mono fun k e=>by rw[e];exact U.o)).trans (gR.gO l)
def O6(w:Q0)(F:Nat->Prop)(h:Nat)(x:HV)(H:gA)(k:Nat)(wr:Q0):Prop:=
 ji wr F h x {H.jy with dp:=H.dp.stop,held:=ig (fun _=>true) 0 (H.gX.take k) H.held}/\gR F w wr/\wr.heap[G (Q w)]?=N (Q1 #[Q5 (N ⟨h,0,J⟩)] 217 (0,0))
theorem IG(h:Nat)(F:Nat->Prop)(H:gA)(w:Q0)(hh:iU w F h H)(hf:H.jM=false)(b5:-1<=H.fail/\H.fail<=9223372036854775807)(c9:O H.gX<=1000000000)(ba:∀x∈H.gX,x.2<O H.held)(_hhl:O H.held<=1000):
  Rg prog 249 #[.agg #[Q5 (N ⟨h,0,J⟩)]] w fun e w'=>e=Ra .nilIface/\iU w' F h H.jY.1/\gR F w w':=by
 obtain⟨x,V⟩:=hh;have aa:Below (G (Q w)) w (Ro w (Q1 #[Q5 (N ⟨h,0,J⟩)] 217)):=(gJ w).alloc gH _;have ak:=V.frame aa.size fun k hk=>aa.block k (V.lt k hk);have H0:=ak.dp.row;have al:=V.dp.row.lt;have R0:=gB w (Q1 #[Q5 (N ⟨h,0,J⟩)] 217);have rc:=gr 0 R0;have bb:decide (x.fail=0)=false:=by rw[V.fail];exact hf
 have bc:=gj (qc h x _ H0 (by rw[V.fail];omega) (by rw[V.fail];omega));have HB:=gj aa;have HX:=gj ak;have b8:=gj bb;have bi:=gj hf;have HF:gy (F h):=gj V.qL.1;have b9:=gj R0;have ca:=gj ba;have bk:G (Q w)≠h:=by omega
 clear V ak H0 R0 aa hf bb b5 ba;go_enter func249,ntmps249;go_wp2_with fail;refine bc.o.mono ?_;rintro e w1 ⟨rfl,bl,bo,q⟩;rw[b8.o];have r:=gj (HX.o.jy bl bo q);have cb:gy (gR F w w1):=gj ((gR.gO HB.o).trans (q.mono fun k e=>by rw[e];exact HF.o));have am:=gj (q.at bk b9.o);clear bl q bo rc bc;have rc:=gr 0 am.o;have cc:=gm am.o;obtain⟨D,q⟩:∃D:HV,D={x with fail:=if x.fail<0 then x.fail else x.fail-1}:=⟨_,rfl⟩;rw[<-q]at r;clear q;have br:=gj (sp h D w1 r.o.dp.row (by have:=r.o.dp.lb;have:=r.o.dp.left;omega) (by have:=r.o.dp.lb;have:=r.o.dp.left;omega));go_wp2_with fail;refine br.o.mono ?_;rintro e w2 ⟨rfl,bs,bt,ag⟩;have W:=gj (r.o.Kv bs bt ag);have bv:gy (gR F w w2):=gj (cb.o.trans (ag.mono fun k e=>by rw[e];exact HF.o));have ap:=gj (ag.at bk am.o);have bw:gy (D.stop.ir=H.dp.stop.ir):=gj W.o.dp.ir;clear bs bt ag rc cc br;cases hdd:D.stop.ir with
 | true=>
  go_wp2;go_ret;refine⟨rfl,⟨D.stop,?_⟩,bv.o⟩;have e:H.jY.1={H.jy with dp:=H.dp.stop}:=by unfold gA.jY;rw[af (by rw[bi.o];decide),aw (by rw[<-bw.o,hdd])]
  rw[e];exact W.o
 | false=>
  have e:H.jY.1={H.jy with dp:=H.dp.stop,held:=ig (fun _=>true) 0 H.gX H.held,gX:=[]}:=by unfold gA.jY;rw[af (by rw[bi.o];decide),af (by rw[<-bw.o,hdd];decide)]
  have cd:=gj e;clear e;have d:=W.o.dp.row;unfold iQ HV.cells at d;obtain⟨la,bN,av,da,-⟩:=W.o.gX.get;have bx:=gj av;rw[av]at d;have a6:O H.jy.gX=O H.gX:=rfl;rw[a6]at d;have c2:=gr 2 d;have f2:=gD 2 d;have rc:=gr 0 ap.o;have ce:=gm d;have bO:=gm ap.o;clear d av;go_wp2;have a7:gy (O6 w F h D.stop H 0 w2):=gj ⟨W.o,bv.o,ap.o⟩;clear c2 f2 rc ce bO;go_loopw [20] (fun i wr=>∃k:Nat,k<=O H.gX/\i=I Y (k:Int)/\O6 w F h D.stop H k wr) (fun i _=>O H.gX-(intOf i).toNat)
  case atStart=>exact⟨0,aJ _,rfl,a7.o⟩
  case round=>
   obtain⟨k,hk,rfl,hrel⟩:=hrel;obtain⟨X,bz,E⟩:=hrel;have l:=gj X;have bA:=gj bz;have bB:=gj E;have d:=X.dp.row;unfold iQ HV.cells at d;have rc:Rn wr ⟨G (Q w),0,J⟩=N (Q5 (N ⟨h,0,J⟩)):=gr 0 E;have bP:=gm E;have cg:=gm d;by_cases al:k<O H.gX
   .obtain⟨b,hb⟩:∃b,b=H.gX[k]:=⟨_,rfl⟩;have aE:H.gX[k]?=N b:=by rw[hb];exact ah al
    have a0:b.2<O H.held:=ca.o b (by rw[hb];exact bq al);obtain⟨dc,a8,a1,-,a2⟩:=X.gX.get;obtain⟨g0,off,u,rfl,d0,d1,R⟩:=a2 k b aE;have e1:Q6 la (O H.jy.gX) bN=Q6 (N ⟨g0,off,J⟩) (O H.gX) a8:=bx.o.symm.trans a1;obtain⟨rfl,-,rfl⟩:=Value.slice.inj e1;have S:(ig (fun _=>true) 0 (H.gX.take k) H.held).length=O H.held:=nB _ _ _ _;obtain⟨gs,os,cap,u0,a3,s0,sf,⟨Cg,dk,a4⟩,dl⟩:=X.held.store (n:=b.2) (by show _<(ig (fun _=>true) 0 (H.gX.take k) H.held).length;rw[S];exact a0);have a5:D.stop.held=Q6 (N ⟨gs,os,J⟩) (O H.held) cap:=by rw[<-S];exact a3
    obtain⟨y,B,bX,-,-⟩:=R.1.gU;subst bX;rw[a5]at d;have c0:Rn wr ⟨h,0,J⟩=N (Q6 (N ⟨gs,os,J⟩) (O H.held) cap):=gr 0 d;have cl:=gK d0;have b0:=gK s0;obtain⟨m,bn⟩:=b;simp only at a0 d0 d1 s0 sf R;have cm:gs≠G (Q w):=fun e=>by rw[e,E]at a4;cases a4
    have g1:(k:Int)<O H.gX:=by omega
    have g2:(bn:Int)<O H.held:=by omega
    have b1:=gj R;have cn:=gj a3;have co:=gj aE;have b2:=gj S;have cp:=gj a0;clear X bz E d hb aE a2 a1 e1 S a3 a5 R a4;go_wp2;have M:gy (Below (G (Q wr)) wr (Ro wr (Q1 #[I Y (bn:Int),Q6 y (O m) B] 157))):=gj ((gJ wr).alloc gH _);have U:=gB wr (Q1 #[I Y (bn:Int),Q6 y (O m) B] 157);have cq:=iK (Q1 #[I Y (bn:Int),Q6 y (O m) B] 157) rc;have cr:=iK (Q1 #[I Y (bn:Int),Q6 y (O m) B] 157) c0;have bD:=iK (Q1 #[I Y (bn:Int),Q6 y (O m) B] 157) s0;have cs:(Ro wr (Q1 #[I Y (bn:Int),Q6 y (O m) B] 157)).frozen? ⟨gs,os+bn,J⟩=false:=(dj (w:=wr) (a:=⟨gs,os+bn,J⟩) (heap_alloc_old wr _ b0)).trans sf;obtain⟨Z,bE⟩:∃Z,Z=Ro wr (Q1 #[I Y (bn:Int),Q6 y (O m) B] 157):=⟨_,rfl⟩;rw[<-bE]at M U cq cr bD cs⊢;have dn:=gj U;have n0:Rn Z ⟨G (Q wr),0,J⟩=N (I Y (bn:Int)):=gr 0 U;have n1:Rn Z ⟨G (Q wr),1,J⟩=N (Q6 y (O m) B):=gr 1 U;have bH:=gj (l.o.frame M.o.size fun k hk=>M.o.block k (l.o.lt k hk));have ct:=gj (bA.o.trans (gR.gO M.o));have cu:=gj (gC M.o (gm bB.o) bB.o);have ds:gs<G (Q Z):=gK bD;have dv:gs≠G (Q wr):=by omega
    clear bE rc c0 s0 sf d0 d1 bP cg cl;go_region;go_wp2
    have b3:=bH.o.Ki (w':=World.setCell Z ⟨gs,os+bn,J⟩ (Q6 y (O m) B)) (F':=F) (n:=bn) (s:=m) (u:=Q6 y (O m) B) cn.o (by show bn<(ig (fun _=>true) 0 (H.gX.take k) H.held).length;rw[b2.o];exact cp.o)
     (b1.o.iI fun j C fz hj _=>M.o.block j (gm hj)) (fun _ h=>h) bH.o.lt rfl
    obtain⟨q1,q2,q3⟩:=b3;have cv:ig (fun _=>true) 0 (H.gX.take (k+1)) H.held=(ig (fun _=>true) 0 (H.gX.take k) H.held).set bn m:=by rw[qo _ _ co.o,sF];rfl
    refine⟨⟨k+1,by omega,by go_num,?_,(ct.o.trans q3).drew,?_⟩,by simp[intOf];omega⟩
    .have q4:=q1.frame (w':=(World.setCell Z ⟨gs,os+bn,J⟩ (Q6 y (O m) B)).drew) gH (fun _ _=>rfl);rw[cv];exact q4
    .exact(Below.heap_setCell Z ⟨gs,os+bn,J⟩ _ _ (dW cm)).trans cu.o
   .obtain rfl:k=O H.gX:=by omega
    have g1:¬(O H.gX:Int)<O H.gX:=by omega
    rw[bx.o]at d;have c2:=gr 2 d;have f2:=gD 2 d;clear d E;go_wp2;go_ret
    have b4:=l.o.PV (w1:=World.setCell wr ⟨h,2,J⟩ (Q6 J 0 0)) (x':={D.stop with gX:=Q6 J 0 0}) (H':={H.jy with dp:=H.dp.stop,held:=ig (fun _=>true) 0 H.gX H.held,gX:=[]})
     (QN _ _ 2 _ l.o.dp.row) (QO _ _ _) ((gR.refl _ wr).setCell _ _ (.inl rfl)) ⟨rfl,rfl,rfl,rfl,rfl⟩ ⟨by rw[aM],rfl,rfl,rfl,rfl⟩ ⟨l.o.dp.left,l.o.dp.ir,l.o.fail,l.o.il⟩ l.o.dp.lb (pg.nil _ _)
    rw[cd.o];exact⟨rfl,⟨_,b4⟩,bA.o.setCell _ _ (.inl HF.o)⟩
theorem uy:∀u:Q0,(zeroValue 226).run prog u=.ok (nW []) u:=fun u=>by kernel_rfl
theorem pL{o:Nat}(h:Rn w ⟨b,o,J⟩=N v)(i:iE w r S):b≠r:=by intro e;subst e;obtain⟨-,L,⟨es,d,j,-⟩,-⟩:=i;unfold World.cell? at h;rw[j]at h;cases h
theorem jE.Gq(h:jE w v os)(l:iE w r S)(m:gR (fun i=>i=r) w w'):jE w' v os:=by obtain⟨hl,a,cap,rfl,hc,d⟩:=h;refine⟨hl,a,cap,rfl,hc,fun i o=>?_⟩;obtain⟨b,off,rfl,j⟩:=d i o;exact⟨b,off,rfl,m.cell (pL j l) j⟩
structure jt(w:Q0)(b off r:Nat)(S:List E):Prop where
 cell:Rn w ⟨b,off,J⟩=N (.map (N r))
 jh:iE w r S
theorem jt.lt{off:Nat}(h:jt w b off r S):b<G (Q w):=gK h.cell
theorem jt.ne{off:Nat}(h:jt w b off r S):b≠r:=pL h.cell h.jh
theorem jt.below{off:Nat}(h:jt w b off r S)(d:Below (G (Q w)) w w'):jt w' b off r S:=
 ⟨(d.cell (p:=⟨b,off,J⟩) h.lt).trans h.cell,h.jh.iI (d.block r h.jh.lt)⟩
theorem jt.step{off:Nat}{T:List E}(h:jt w b off r S)(d:gR (fun i=>i=r) w w')(j:iE w' r T):jt w' b off r T:=⟨d.cell h.ne h.cell,j⟩
theorem sL(w:Q0):
  Rg prog 92 #[] w fun e w'=>e=Ra (Q5 (N ⟨G (Q w)+1,0,J⟩))/\jt w' (G (Q w)+1) 0 (G (Q w)) []/\Below (G (Q w)) w w'/\G (Q w')=G (Q w)+2:=by
 have d:=@run_makeMap prog;go_enter func92,ntmps92;go_wp2;go_ret;have b:Below (Ro w (.map #[] 0)).heap.size (Ro w (.map #[] 0)) ((Ro w (.map #[] 0)).alloc (Q1 #[.map (N (G (Q w)))] 166)):=(kz).alloc gH _;have hc:=pK (Ro w (.map #[] 0)) #[.map (N (G (Q w)))] 166 (0,0) 0;rw[aj]at hc;exact⟨rfl,⟨hc,(iE.new w).iI (b.block _ (by simp))⟩,((gJ w).alloc gH _).alloc (by simp) _,by simp⟩
def uH(w:Q0)(r:Nat)(S:List E)(os:List kv)(i:Q4)(wr:Q0):Prop:=
 ∃k:Nat,k<=O os/\i=I Y (k:Int)/\iE wr r (iO S (os.take k))/\gR (fun i=>i=r) w wr
theorem uH.step{wr W b:Q0}{k:Nat}(hk:k<O os)(d:gR (fun i=>i=r) w wr)(j:Below (G (Q wr)) wr W)(l:W.grownBy b (N r))(m:iE b r (Ja (iO S (os.take k)) os[k])):
  uH w r S os (I Y ((k+1:Nat):Int)) b.drew:=
 ⟨k+1,hk,rfl,by rw[Be _ _ _ hk];exact m,((d.EU j).grow l (.inl rfl)).drew⟩
theorem Dj(b off r:Nat)(S:List E)(v:Nat)(sv:Q4)(os:List kv)(w:Q0)(he:jt w b off r S)(hs:jE w sv os)(a2:O os<=2932031007402):
  Rg prog 132 #[Q5 (N ⟨b,off,J⟩),.agg #[I .u64 v,sv]] w fun e w'=>e=Ra (.tuple #[])/\iE w' r (iO S os)/\gR (fun i=>i=r) w w':=by
 obtain⟨a,cap,rfl,a3,-⟩:=hs.gU;have s:Below (G (Q w)) w (Ro w (Q1 #[I .u64 (v:Int),Q6 a (O os) cap] 51)):=(gJ w).alloc gH _;have V:=gj (he.below s);have HS:=gj (hs.below s);have a4:=he.lt;have Z:gR (fun i=>i=r) w (Ro w (Q1 #[I .u64 (v:Int),Q6 a (O os) cap] 51)):=gR.gO s;clear hs he;go_enter func132,ntmps132;go_wp2;generalize aa:Ro w (Q1 #[I .u64 (v:Int),Q6 a (O os) cap] 51)=w0;rw[aa]at V HS Z s;clear aa;go_loopw [9] (fun i wr=>uH w0 r S os i wr) (fun i _=>O os-(intOf i).toNat)
 case atStart=>exact⟨0,aJ _,rfl,V.o.jh,gR.refl _ _⟩
 case round=>
  obtain⟨k,hk,rfl,d,y⟩:=hrel;by_cases C:k<O os
  .have a6:(k:Int)<O os:=by omega
   have a8:=y.size;obtain⟨a',cap',he,-,u⟩:=(HS.o.Gq V.o.jh y).gU;cases he;obtain⟨ob,oo,rfl,c0,c1,c2,c3⟩:=u k C;have av:=(V.o.step y d).cell;have a9:=gK av;have ba:=gK c0;clear u;have W:=gj d;clear d;obtain⟨o,ho⟩:∃o,os[k]=o:=⟨_,rfl⟩;have HO:=gj ho;rw[ho]at c0 c1 c2 c3;clear ho;obtain⟨D,T,B,X⟩:=o;have F:Below (G (Q wr)) wr (Ro wr (Q1 #[I Y D,I Y T,Q7 ⟨Rm B⟩,Q7 ⟨Rm X⟩] 105)):=(gJ wr).alloc gH _;have x:iE (Ro wr (Q1 #[I Y D,I Y T,Q7 ⟨Rm B⟩,Q7 ⟨Rm X⟩] 105)) r (iO S (os.take k)):=W.o.iI (F.block r W.o.lt);by_cases l:D=1
   .obtain⟨W1,M,m,R,a0⟩:=x.put (mt:=162) underlying162 (T,B) X;have a1:(D==1)=true:=by rw[aT];exact l
    have HE:gy (Ja (iO S (os.take k)) os[k]=nf (T,B) X (iO S (os.take k))):=gj (by rw[HO.o];exact aw l);have q:=M 1;have j:∀w:Q0,w.drewN 1=w.drew:=fun _=>rfl;rw[j,j]at q;simp only[kV,nd,nW]at q;have U:=gj m;clear M j l x m;go_wp2;go_region;go_wp2;refine⟨uH.step C y F R (by rw[HE.o];exact U.o),?_⟩;simp[intOf];omega
   .obtain⟨W1,M,m,R,a0⟩:=x.drop (mt:=162) underlying162 (T,B) 103 0;have a1:(D==1)=false:=by rw[ar];exact l
    have HE:gy (Ja (iO S (os.take k)) os[k]=om (T,B) (iO S (os.take k))):=gj (by rw[HO.o];exact af l);have q:=M 1;have j:∀w:Q0,w.drewN 1=w.drew:=fun _=>rfl;rw[j,j]at q;simp only[kV,nd]at q;have U:=gj m;clear M j l x m;go_wp2;go_region;go_wp2;refine⟨uH.step C y F R (by rw[HE.o];exact U.o),?_⟩;simp[intOf];omega
  .obtain rfl:k=O os:=by omega
   have bb:¬(O os:Int)<O os:=by omega
   rw[aM]at d;have W:=gj d;clear d;go_wp2;go_end0;exact⟨rfl,W.o,Z.trans y⟩
theorem Bi(x:Int)(w:Q0):Rg prog 203 #[I Y x] w fun e w'=>e=Ra (.bool false)/\w=w':=by
 have h:(x != x)=false:=by simp
 go_enter func203,ntmps203;go_wp2;go_ret;exact⟨rfl,rfl⟩
theorem Bj(x:gw)(w:Q0):Rg prog 204 #[Q7 ⟨Rm x⟩] w fun e w'=>e=Ra (.bool false)/\w=w':=by
 have h:(x==x)=true:=by simp
 go_enter func204,ntmps204;go_wp2;go_ret;exact⟨rfl,rfl⟩
def tP(a b:Int):Int:=if a<b then -1 else if b<a then 1 else 0
def uM(a b:gw):Int:=if a<b then -1 else if b<a then 1 else 0
def sZ(a b:K):Int:=if tP a.1 b.1≠0 then tP a.1 b.1 else uM a.2 b.2
theorem AL(a b:Int)(w:Q0):Rg prog 179 #[I Y a,I Y b] w fun e w'=>e=Ra (I Y (tP a b))/\w=w':=by
 rcases dY a b with h|h|h
 .have d:gy (tP a b=-1):=gj (by unfold tP;rw[aw h]);go_enter func179,ntmps179;go_wp2_with (go_at_call 203;refine(Bi _ _).mono ?_;rintro e w' ⟨rfl,rfl⟩);go_ret;exact⟨by rw[d.o];rfl,rfl⟩
 .subst h;have d:gy (tP a a=0):=gj (by unfold tP;simp);go_enter func179,ntmps179;go_wp2_with (go_at_call 203;refine(Bi _ _).mono ?_;rintro e w' ⟨rfl,rfl⟩);go_ret;exact⟨by rw[d.o];rfl,rfl⟩
 .have i:¬a<b:=by omega
  have d:gy (tP a b=1):=gj (by unfold tP;rw[af i,aw h]);go_enter func179,ntmps179;go_wp2_with (go_at_call 203;refine(Bi _ _).mono ?_;rintro e w' ⟨rfl,rfl⟩);go_ret;exact⟨by rw[d.o];rfl,rfl⟩
theorem PI(a b:gw):a<b\/a=b\/b<a:=by
 by_cases h1:a<b
 .exact .inl h1
 .by_cases d:b<a
  .exact .inr (.inr d)
  .exact .inr (.inl (List.le_antisymm (List.not_lt.1 d) (List.not_lt.1 h1)))
theorem AM(a b:gw)(w:Q0):Rg prog 180 #[Q7 ⟨Rm a⟩,Q7 ⟨Rm b⟩] w fun e w'=>e=Ra (I Y (uM a b))/\w=w':=by
 rcases PI a b with h|h|h
 .have d:gy (uM a b=-1):=gj (by unfold uM;rw[aw h]);have i:Op.bytesLess a b=true:=by rw[bytesLess_eq];exact bh h
  clear h;go_enter func180,ntmps180;go_wp2_with (go_at_call 204;refine(Bj _ _).mono ?_;rintro e w' ⟨rfl,rfl⟩);go_ret;exact⟨by rw[d.o];rfl,rfl⟩
 .subst h;have d:gy (uM a a=0):=gj (by unfold uM;simp[fy]);have i:Op.bytesLess a a=false:=by rw[bytesLess_eq];exact aF (fy a)
  have hq:(a==a)=true:=eW a;go_enter func180,ntmps180;go_wp2_with (go_at_call 204;refine(Bj _ _).mono ?_;rintro e w' ⟨rfl,rfl⟩);go_ret;exact⟨by rw[d.o];rfl,rfl⟩
 .have h1:¬a<b:=fun l=>fy a (List.lt_trans l h);have j:a≠b:=fun e=>fy a (by rw[e]at h⊢;exact h);have d:gy (uM a b=1):=gj (by unfold uM;rw[af h1,aw h]);have i:Op.bytesLess a b=false:=by rw[bytesLess_eq];exact aF h1
  have hq:(a==b)=false:=by rw[ar];exact j
  clear h h1 j;go_enter func180,ntmps180;go_wp2_with (go_at_call 204;refine(Bj _ _).mono ?_;rintro e w' ⟨rfl,rfl⟩);go_ret;exact⟨by rw[d.o];rfl,rfl⟩
theorem GN(w:Q0)(a b c:Obj):(((Ro w a).alloc b).alloc c).drew=Sort.grow (w.drewN 1) #[a,b,c]:=by
 have h:((w.heap.push a).push b).push c=w.heap++#[a,b,c]:=by apply Array.ext';simp
 unfold Sort.grow World.alloc World.drew World.drewN;simp[h]
theorem PR(B cap:Nat)(x y:Int)(w:Q0)(s:Rn w ⟨B,0,J⟩=N (I Y x))(h1:Rn w ⟨B,1,J⟩=N (I Y y)):
  Rg prog 178 #[Q6 (N ⟨B,0,J⟩) 2 cap] w fun e w'=>e=Ra (I Y (if x≠0 then x else y))/\w=w':=by
 obtain⟨z,l⟩:∃z,z=if x≠0 then x else y:=⟨_,rfl⟩;rw[<-l];have m:=gj l;clear l;go_enter func178,ntmps178;go_wp2;go_loop [8] (fun i=>i=I Y 0\/(i=I Y 1/\x=0)\/(i=I Y 2/\x=0/\y=0)) (fun i=>2-(intOf i).toNat)
 case atStart=>exact .inl rfl
 case round=>
  rcases hrel with rfl|⟨rfl,b⟩|⟨rfl,b,d⟩
  .by_cases b:x=0
   .have q:(x != 0)=false:=by simp[b]
    have j:=gj b;clear b;go_wp2;exact⟨.inr (.inl ⟨rfl,j.o⟩),by simp[intOf]⟩
   .have q:(x != 0)=true:=by simp[b]
    have HV:gy (z=x):=gj (by rw[m.o,aw b]);clear b;go_wp2;go_ret;exact⟨by rw[HV.o];rfl,rfl⟩
  .have j:=gj b;clear b;by_cases d:y=0
   .have q:(y != 0)=false:=by simp[d]
    have r:=gj d;clear d;go_wp2;exact⟨.inr (.inr ⟨rfl,j.o,r.o⟩),by simp[intOf]⟩
   .have q:(y != 0)=true:=by simp[d]
    have HV:gy (z=y):=gj (by rw[m.o,af (by rw[j.o];simp)]);clear d;go_wp2;go_ret;exact⟨by rw[HV.o];rfl,rfl⟩
  .have HV:gy (z=0):=gj (by rw[m.o,af (by rw[b];simp),d]);clear b d;go_wp2;go_ret;exact⟨by rw[HV.o];rfl,rfl⟩
theorem DL(a b:K)(w:Q0):
  Rg prog 138 #[.agg #[I Y a.1,Q7 ⟨Rm a.2⟩],.agg #[I Y b.1,Q7 ⟨Rm b.2⟩]] w fun e w'=>e=Ra (I Y (sZ a b))/\∃q x,w'=Sort.grow (w.drewN q) x:=by
 obtain⟨at',i⟩:=a;obtain⟨d,j⟩:=b;simp only;go_enter func138,ntmps138;go_wp2;have y:Below (G (Q w)) w ((Ro w (Q1 #[I Y at',Q7 ⟨Rm i⟩] 103)).alloc (Q1 #[I Y d,Q7 ⟨Rm j⟩] 103)):=((gJ w).alloc gH _).alloc (by simp) _;have s:=gP _ (Q1 #[I Y d,Q7 ⟨Rm j⟩] 103) (gB w (Q1 #[I Y at',Q7 ⟨Rm i⟩] 103));have m:=gB (Ro w (Q1 #[I Y at',Q7 ⟨Rm i⟩] 103)) (Q1 #[I Y d,Q7 ⟨Rm j⟩] 103);rw[aj]at m;generalize r:(Ro w (Q1 #[I Y at',Q7 ⟨Rm i⟩] 103)).alloc (Q1 #[I Y d,Q7 ⟨Rm j⟩] 103)=l at *
 have B:=gj r;clear r y;have D:=gr 0 s;have a1:=gr 1 s;have b0:=gr 0 m;have E:=gr 1 m;clear s m;refine wp_region_still_tail 10 (by kernel_rfl) (by kernel_rfl) ?_;simp only[aN,bp,cN,bC]
 repeat still_step
 still_call ((AL _ _ _).mono (fun e C h=>⟨h.1,h.2.symm⟩))
 repeat still_step
 still_call ((AM _ _ _).mono (fun e C h=>⟨h.1,h.2.symm⟩))
 refine wpStill_nil ?_;clear D a1 b0 E;go_wp2_with fail;have u:=gB l (Q1 #[I Y (tP at' d),I Y (uM i j)] 3);refine(PR (G (Q l)) 2 (tP at' d) (uM i j) (Ro l (Q1 #[I Y (tP at' d),I Y (uM i j)] 3)).drew (aP (Ro l (Q1 #[I Y (tP at' d),I Y (uM i j)] 3)) _ 0 _ _ _ u) (aP (Ro l (Q1 #[I Y (tP at' d),I Y (uM i j)] 3)) _ 1 _ _ _ u)).mono ?_;rintro e w3 ⟨rfl,rfl⟩;clear u;rw[show(if tP at' d≠0 then tP at' d else uM i j)=sZ (at',i) (d,j)from rfl];go_wp2;go_ret;refine⟨rfl,1,#[Q1 #[I Y at',Q7 ⟨Rm i⟩] 103,Q1 #[I Y d,Q7 ⟨Rm j⟩] 103,Q1 #[I Y (tP at' d),I Y (uM i j)] 3],?_⟩;rw[<-B.o];exact GN _ _ _ _
def LS:Go.Shelf.Ren:=⟨fun | 6=>176 | 15=>202 | 14=>201 | 28=>215 | 29=>216 | 20=>207 | 21=>208 | 22=>209 | 23=>210 | 24=>211 | 25=>212 | 26=>213 | 27=>214 | 46=>217 | 47=>218 | 48=>219 | 49=>220 | 50=>221 | 57=>222|n=>n,fun | 22=>220 | 24=>103 | 25=>227 | 3=>3 | 39=>200 | 0=>0 | 53=>199 | 55=>48 | 4=>4 | 46=>328 | 45=>327 | 50=>268 | 5=>5 | 9=>9 | 66=>335 | 70=>338 | 76=>340 | 77=>282|n=>n,fun|n=>n⟩
theorem Pm:Go.Proofs.SlLaysF0.n6 prog LS:={
 mixed:=by kernel_rfl
 f6:=⟨f176.name,by decide,func176.trans (bm N (by kernel_rfl))⟩
 f14:=⟨f201.name,by decide,func201.trans (bm N (by kernel_rfl))⟩
 f15:=func202.trans (bm N (by kernel_rfl))
 f20:=⟨f207.name,by decide,func207.trans (bm N (by kernel_rfl))⟩
 f21:=⟨f208.name,by decide,func208.trans (bm N (by kernel_rfl))⟩
 f22:=⟨f209.name,by decide,func209.trans (bm N (by kernel_rfl))⟩
 f23:=⟨f210.name,by decide,func210.trans (bm N (by kernel_rfl))⟩
 f24:=⟨f211.name,by decide,func211.trans (bm N (by kernel_rfl))⟩
 f25:=⟨f212.name,by decide,func212.trans (bm N (by kernel_rfl))⟩
 f26:=⟨f213.name,by decide,func213.trans (bm N (by kernel_rfl))⟩
 f27:=⟨f214.name,by decide,func214.trans (bm N (by kernel_rfl))⟩
 f28:=func215.trans (bm N (by kernel_rfl))
 f29:=func216.trans (bm N (by kernel_rfl))
 f46:=⟨f217.name,by decide,func217.trans (bm N (by kernel_rfl))⟩
 f47:=func218.trans (bm N (by kernel_rfl))
 f48:=func219.trans (bm N (by kernel_rfl))
 f49:=⟨f220.name,by decide,func220.trans (bm N (by kernel_rfl))⟩
 f50:=⟨f221.name,by decide,func221.trans (bm N (by kernel_rfl))⟩
 f57:=⟨f222.name,by decide,func222.trans (bm N (by kernel_rfl))⟩
 t0:=underlying0
 a0:=Tryz.isAgg0
 z0:=Tryz.sizeOf0
 v0:=Tryz.zeroValue0
 t3:=underlying3
 a3:=Tryz.isAgg3
 z3:=Tryz.sizeOf3
 v3:=Tryz.zeroValue3
 t4:=underlying4
 a4:=Tryz.isAgg4
 z4:=Tryz.sizeOf4
 v4:=Tryz.zeroValue4
 t5:=underlying5
 a5:=Tryz.isAgg5
 z5:=Tryz.sizeOf5
 v5:=Tryz.zeroValue5
 t9:=underlying9
 a9:=Tryz.isAgg9
 z9:=Tryz.sizeOf9
 v9:=Tryz.zeroValue9
 t22:=underlying220
 a22:=Tryz.isAgg220
 z22:=Tryz.sizeOf220
 v22:=Tryz.zeroValue220
 t25:=underlying227
 a25:=Tryz.isAgg227
 z25:=Tryz.sizeOf227
 v25:=Tryz.zeroValue227
 t39:=underlying200
 a39:=Tryz.isAgg200
 z39:=Tryz.sizeOf200
 v39:=Tryz.zeroValue200
 t45:=underlying327
 a45:=Tryz.isAgg327
 z45:=Tryz.sizeOf327
 v45:=Tryz.zeroValue327
 t46:=underlying328
 a46:=Tryz.isAgg328
 z46:=Tryz.sizeOf328
 v46:=Tryz.zeroValue328
 t50:=underlying268
 a50:=Tryz.isAgg268
 z50:=Tryz.sizeOf268
 v50:=Tryz.zeroValue268
 t53:=underlying199
 a53:=Tryz.isAgg199
 z53:=Tryz.sizeOf199
 v53:=Tryz.zeroValue199
 t55:=underlying48
 a55:=Tryz.isAgg48
 z55:=Tryz.sizeOf48
 v55:=Tryz.zeroValue48
 t66:=underlying335
 a66:=Tryz.isAgg335
 z66:=Tryz.sizeOf335
 v66:=Tryz.zeroValue335
 t70:=underlying338
 a70:=Tryz.isAgg338
 z70:=Tryz.sizeOf338
 v70:=Tryz.zeroValue338
 t76:=underlying340
 a76:=Tryz.isAgg340
 z76:=Tryz.sizeOf340
 v76:=Tryz.zeroValue340
 t77:=underlying282
 a77:=Tryz.isAgg282
 z77:=Tryz.sizeOf282
 v77:=Tryz.zeroValue282}
attribute [local go_sem] Oper.semAt_some
theorem iJ.of_walks(h:iJ w r q l pre)(hk:KeepsWalks w w'):iJ w' r q l pre:=by obtain⟨zs,i,b,since,c0,h1,j,m,d,rest⟩:=h;exact⟨zs,i,b,since,c0,h1,j,hk.same r _ m rfl,hk.same q _ d rfl,rest⟩
theorem iJ.iter_walk(h:iJ w r q l pre):∃o:Obj,w.heap[q]?=N o/\o.isWalk=true:=by obtain⟨zs,i,d,since,c0,h1,j,m,b,rest⟩:=h;exact⟨_,b,rfl⟩
theorem IW(F:Fence)(n:Nat)(hf:F.fn 177)(X:F.round=J)(hn:1<=n)(m b:Nat)(S:List E)(w:Q0)(Z:m<G (Q w))(hm:Rn w ⟨m,0,J⟩=N (.map (N b)))(ht:iE w b S):
  SeqStopsA F n prog 177 #[Q5 (N ⟨m,0,J⟩)] (fun k:K=>#[kV k]) (fun xs=>xs.Perm (S.map (·.1))) (fun _=>True) (O S) w:=by
 intro l d Jx W hW D ba hY h0;obtain⟨-,L,o,hp⟩:=ht;have u:ix W b L:=o.iI (hW.block _ o.lt);have bb:Rn W ⟨m,0,J⟩=N (.map (N b)):=(hW.cell (p:=⟨m,0,J⟩) Z).trans hm;have a6:O L=O S:=by rw[hp.length_eq,aB]
 have x:(L.map (·.1)).Perm (S.map (·.1)):=by have:=hp.map (·.1);rw[vH]at this;exact this
 refine callsIn_of_wp func177 rfl hf ?_ X
 try simp only[ntmps177,dG,ao,aI,Nat.reduceAdd,Nat.reduceSub,bd,bf,bK,cY,aQ,aV]
 gi_wp2_with (first
  | (gi_at_range;refine sA rfl _ rfl underlying162 rfl u ?_;intro w0 M i bc)
  | gi_in)
 try go_frame
 gi_loopw [3] (fun _ wr=>∃pre,iJ wr b (G (Q W)) L pre/\d (pre.map (·.1)) wr) (fun _ wr=>wr.rangeLeft b (G (Q W)))
 case atStart=>exact⟨[],M,D [] W w0 J h0 ⟨i.os,i.tape,i.output,i.size,fun k hk _=>i.block k hk⟩ (fun r e=>by cases e)⟩
 case round=>
  obtain⟨pre,q,C⟩:=hrel
  gi_wp2_with (first
   | (gi_at_next;refine tA rfl _ rfl rfl q ?_ ?_)
   | gi_in)
  .intro ak
   gi_wp2
   go_end0;exact⟨⟨_,rfl⟩,.inl ⟨_,(ak.map _).trans x,C⟩⟩
  .intro y kb v w2 hx bi j al am bk bl;have ap:d (pre.map (·.1)) w2:=D _ wr w2 (N (G (Q W))) C al (fun r e=>by cases e;exact⟨aq _,q.iter_walk⟩);have av:(pre.map (·.1)).length<O S:=by have h1:=j.left;rw[aB];simp at h1;omega
   have R:d (pre.map (·.1)) (Ro w2 (Q1 #[I Y y,Q7 ⟨Rm kb⟩] 103)):=D _ w2 _ J ap (ek w2 _ J) (fun r e=>by cases e);have B:=j.of_walks (KeepsWalks.alloc w2 (Q1 #[I Y y,Q7 ⟨Rm kb⟩] 103));obtain⟨fn,tmps,assign,body,hy,hR⟩:=hY (pre.map (·.1)) (y,kb) (Ro w2 (Q1 #[I Y y,Q7 ⟨Rm kb⟩] 103)) R av;have bn:=q.left;have U:=j.left;simp only[ab,ao,aI]at U;clear am;unfold kV nd at hy
   gi_wp2
   refine hR.mono ?_;rintro e W3 (⟨rfl,aE,a0⟩|⟨rfl,V⟩)
   .gi_wp2
    have s:=B.of_walks a0;go_roundw
    case rel=>exact⟨_,s,by rw[bj];exact aE⟩
    case measure=>have:=s.left;simp only[ab,ao,aI]at this;omega
   .gi_wp2
    refine ai (ef rfl _ _ _) rfl ?_;exact⟨⟨_,rfl⟩,.inr ⟨_,cK,V⟩⟩
end Go.Proofs.YtkkfmkhbdoeglabGreatDoor
namespace Go.Proofs.YtkkfmkhbdoeglabGreatDoor
open Go renaming World->Q0,Value->Q4,Calls->Rg
open Go.Ending renaming returned->Ra
open Go.IntKind renaming i64->Y
open Go.Obj renaming cells->Q1
open Go.Value renaming int->I,pointer->Q5,slice->Q6,string->Q7
open Go.World renaming heap->Q,cell?->Rn,alloc->Ro
open List renaming length->O,toArray->Rm
open Option renaming none->J,some->N
open _root_.Array renaming size->G
open Go.Proofs.Tryz
open Go.RowKit Go.Shelf
attribute [local go_sem] Oper.semAt_some
def jX(l:List K):List Q4:=l.flatMap fun k=>[I Y k.1,Q7 ⟨Rm k.2⟩]
theorem CE(l:List K)(k:K):jX (l++[k])=jX l++[I Y k.1,Q7 ⟨Rm k.2⟩]:=by simp[jX]
theorem OD:(prog.info? 103).map (fun i=>(i.zero,i.size,i.bytes))=N (N (.agg #[I Y 0,Q7 ⟨#[]⟩]),2,24):=by kernel_rfl
theorem cell_two_new(w:Q0)(x y:Q4)(t:TypeId):∀j u,[x,y][j]?=N u->(Ro w (Q1 #[x,y] t)).cell? ((⟨G (Q w),0,J⟩:Addr).add j)=N u:=by
 intro j u b;have:=aP (Ro w (Q1 #[x,y] t)) (G (Q w)) j _ _ _ (gB w (Q1 #[x,y] t))
 match j,b with
 | 0,b=>simp at b;subst b;simp[Addr.add,this]
 | 1,b=>simp at b;subst b;simp[Addr.add,this]
 | j+2,b=>simp at b
theorem Cx(F:Fence)(n:Nat)(hf:F.fn 200)(E:F.round=J)(hn:3<=n)(gf:Nat)(lb:Array Q4)(ak:F.fn gf)(eg:∀args w,(callFunc gf args).run prog w=.ok (.enter gf args) w)(V Sp:List K->Prop)(b:Nat)(hN:b<=1000000000)(w:Q0)(Z:SeqStopsA F (n-1) prog gf lb (fun k:K=>#[kV k]) V Sp b w)(_hSx:∀q,V q->O q<=b):
  CallsIn F n prog 200 #[Q6 J 0 0,.func (.func gf) #[] lb] w fun e W'=>∃v q,e=Ra v/\V q/\W'.ownsRow (G (Q w)) 103 2 v (O q) (jX q)/\Below (G (Q w)) w W':=by
 have h1:1<=n:=by omega
 obtain⟨i0,hi,al,am,ap⟩:=dE OD;refine callsIn_of_wp_marks func200 rfl hf ?_ E
 try simp only[ntmps200,dG,ao,aI,Nat.reduceAdd,Nat.reduceSub,bd,bf,bK,cY,aQ,aV]
 gi_wp2
 have bS:=Boxed.new w 220 (Q6 J 0 0);have s:Below (G (Q w)) w (Ro w (Q1 #[Q6 J 0 0] 220)):=(gJ w).alloc gH _;have aE:(Ro w (Q1 #[Q6 J 0 0] 220)).heap.size=G (Q w)+1:=by simp
 obtain⟨W0,M⟩:∃W0,Ro w (Q1 #[Q6 J 0 0] 220)=W0:=⟨_,rfl⟩;rw[M]at bS s aE⊢;clear M
 refine wpIn_rangeFunc_ownH E h1 (gf:=gf) (lb:=lb) rfl ak eg Z walksK_t walksK_b s (fun _=>rfl)
  (fun pre W=>(∃v,Boxed W (G (Q w)) 220 v/\W.ownsRow (G (Q w)) 103 2 v (O pre) (jX pre)/\True)/\Below (G (Q w)) w W)
  (fun _ _ _=>False)
  (OwnFrom.and (Own.from (holdsRow_own (G (Q w)) (G (Q w)) 220 103 2 (fun pre:List K=>O pre) jX (fun _ _=>True)) _) (ownFrom_below gH (by omega)))
  (fun _ _ _ _ _ hs _ _=>hs)
  ⟨⟨_,bS,World.ownsRow_nil _ _ _ _,cK⟩,s⟩
  (fun x a' W=>∃j,G (Q w)<j/\W.heap[j]?=N (Q1 #[I Y x.1,Q7 ⟨Rm x.2⟩] 103 (0,0))/\a'={tmps:=#[Q6 J 0 0,.func (.func gf) #[] lb,Q5 (N ⟨G (Q w),0,J⟩),undef,Q6 J 0 0,Q5 (N ⟨j,0,J⟩),.func (.func gf) #[] lb,.agg #[I Y x.1,Q7 ⟨Rm x.2⟩],undef,undef,undef,undef,undef],defers:=[]})
  (fun x a' _ X d row hs hg hr=>by obtain⟨j,h1,h2,h3⟩:=hs;exact⟨j,h1,(hg.block j (gm h2) (fun e=>by obtain⟨-,o,ho,hc⟩:=hr j e.symm;rw[h2]at ho;cases ho;cases hc)).trans h2,h3⟩)
  ?assign ?body ?done ?stop
 case assign=>
  rintro l pre x W K ⟨⟨v1,R,a3,-⟩,S⟩ hK;unfold kV nd
  gi_wp2
  exact hK _ _ ((KeepsOthers.alloc _ _).from _) (KeepsWalks.alloc _ _) ⟨⟨v1,R.alloc _,a3.alloc _,cK⟩,S.alloc S.size _⟩ ⟨G (Q W),R.lt,gB W _,rfl⟩
 case body=>
  rintro l pre ⟨kt,kb⟩ a' W hl ⟨r,hr⟩ ⟨⟨v,B,i,-⟩,u⟩ ⟨j,bs,bX,rfl⟩ bt;have hc:=B.cell;have x0:=gr 0 bX;have x1:=gr 1 bX;have bv:=u.size;have hmx:maxLen=9223372036854775807:=rfl
  gi_wp2_with (gi_at_builtin;refine wpListIn_append_own _ rfl _ _ 220 rfl (G (Q w)) 103 i0 (.agg #[I Y 0,Q7 ⟨#[]⟩]) 2 24 underlying220 hi al am ap rfl (by decide) _ _ _ rfl (i.alloc _) ⟨G (Q W),0,J⟩ 1 1 [I Y kt,Q7 ⟨Rm kb⟩] rfl rfl (cell_two_new _ _ _ _) (by simp[Value.oneCell']) (by omega) (by omega) (by simp;omega) ?_;intro v' w1 m C _;obtain⟨g',cap',rfl⟩:=ownsRow_succ m;obtain⟨U,a5,a6,y,a7⟩:=B.appended (by decide) i u.size gH m C;have bw:=U.cell;have bx:=U.frozen)
  exact⟨y.from _,⟨y.size,fun k o h hw=>y.same k o h (Obj.not_cells_of_walk hw)⟩,⟨_,a5,by rw[CE];simpa using a6⟩,u.trans a7⟩
 case done=>
  rintro D ys W hD hS ⟨⟨v,B,i,-⟩,u⟩ hK;have hc:=B.cell
  gi_wp2
  refine⟨by simp,.inl ⟨_,_,rfl,run_takeDeferred hK,?_⟩⟩;exact⟨_,results_tmp rfl _ _ _,v,ys,rfl,hS,ownsRow_putObj i _ hK rfl,u.trans (belowK_b (w:=w) gH W D _ _ (by omega) hK rfl rfl)⟩
 case stop=>rintro D c pre W _ _ h _;exact h.elim
end Go.Proofs.YtkkfmkhbdoeglabGreatDoor
namespace Go.Proofs.YtkkfmkhbdoeglabGreatDoor
open Go renaming World->Q0,Value->Q4,Calls->Rg
open Go.Ending renaming returned->Ra
open Go.IntKind renaming i64->Y
open Go.Obj renaming cells->Q1
open Go.Value renaming int->I,pointer->Q5,slice->Q6,string->Q7
open Go.World renaming heap->Q,cell?->Rn,alloc->Ro
open List renaming length->O,toArray->Rm
open Option renaming none->J,some->N
open _root_.Array renaming size->G
open Go.Proofs.Tryz
open Go.RowKit Go.Shelf Go.Sort
attribute [local go_sem] Oper.semAt_some
def yB(k:K):List Q4:=[I Y k.1,Q7 ⟨Rm k.2⟩]
theorem tQ(a b:K):ltOf sZ a b=oT a b:=by
 unfold ltOf oT;unfold sZ tP uM;rcases dY a.1 b.1 with h|h|h
 .simp[h]
 .have h1:¬a.1<b.1:=by omega
  have i:¬b.1<a.1:=by omega
  by_cases d:a.2<b.2
  .simp[h,d]
  .by_cases j:b.2<a.2
   .simp[h,d,j]
   .simp[h,d,j]
 .have h1:¬a.1<b.1:=by omega
  have i:¬a.1=b.1:=by omega
  simp[h,h1,i]
theorem FQ:SWO (ltOf sZ) where
 irrefl x:=by rw[tQ];exact rJ x
 trans x y z h1 b:=by rw[tQ]at *;exact qf h1 b
 ntrans x y z h1 b:=by
  rw[tQ]at *
  cases h:oT x z with
  | false=>rfl
  | true=>
   rcases xQ y x with e|e|e
   .rw[qf e h]at b;cases b
   .subst e;rw[h]at b;cases b
   .rw[e]at h1;cases h1
theorem Dm(x y:K)(h1:ltOf sZ x y=false)(b:ltOf sZ y x=false):x=y:=by
 rw[tQ]at *
 rcases xQ x y with e|e|e
 .rw[e]at h1;cases h1
 .exact e
 .rw[e]at b;cases b
theorem oZ(l:List K):(jX l).length=O l*2:=by
 induction l with
 | nil=>rfl
 | cons k l ih=>simp[jX]at ih⊢;omega
theorem zp:∀(l:List K) (t:Nat),t<O l*2->(jX l)[t]?=N ((yB l.toArray[t / 2]!)[t%2]!)
 | [],t,h=>by simp at h
 | k::l,0,_=>by simp[jX,yB]
 | k::l,1,_=>by simp[jX,yB]
 | k::l,t+2,h=>by have ih:=zp l t (by simp at h;omega);have e:jX (k::l)=I Y k.1::Q7 ⟨Rm k.2⟩::jX l:=rfl;rw[e,show(t+2) / 2=t / 2+1 by omega,show(t+2)%2=t%2 by omega];simp only[aX,ih];simp
theorem Gf(l:List K)(t:Nat)(h:t<O l*2):(jX l)[t]?=N (flatK yB 2 (Rm l))[t]!:=by rw[zp l t h,get_flatK yB 2 (Rm l) t (by simpa using h)]
theorem zV{α:Type}[Inhabited α](enc:α->List Q4)(k:Nat)(w:Q0)(b off m:Nat)(d:Array α)(os:Array Obj){i:Nat}(h1:i<G (Q w))(j:i≠b):(sortWorldK enc k w b off m d os).heap[i]?=w.heap[i]?:=by unfold sortWorldK putRowK putRow mapBlock grow Sort.ahead;simp only;rw[fu (by simpa using h1)];simp[fj,dW j]
theorem zU{α:Type}[Inhabited α](enc:α->List Q4)(k:Nat)(w:Q0)(b off m base:Nat)(d:Array α)(os:Array Obj)(h:base<=b)(j:base<=G (Q w)):Below base w (sortWorldK enc k w b off m d os):=
 ⟨rfl,rfl,rfl,size_sortWorldK_c enc k w b off m d os,fun i l=>zV enc k w b off m d os (by omega) (by omega)⟩
theorem Cd{α:Type}[Inhabited α](enc:α->List Q4)(k:Nat)(w:Q0)(b off m:Nat)(d:Array α)(os:Array Obj){cs:Array Q4}{t:TypeId}{i:Nat×Nat}(h:w.heap[b]?=N (Q1 cs t i)):∃j,(sortWorldK enc k w b off m d os).heap[b]?=N (Q1 j t i):=by have h1:=gm h;refine⟨putCells id off (flatK enc k d) cs,?_⟩;unfold sortWorldK putRowK putRow mapBlock grow Sort.ahead;simp only;rw[fu (by simpa using h1)];simp[fj,h,onCells]
def pI(w:Q0)(v:Q4)(l:List K):Prop:=gE w v 2 (O l) (jX l)/\∀g,Value.ownBlock v=N g->∃cs b,w.heap[g]?=N (Q1 cs 103 b)
def zK(l:List K):List K:=l.mergeSort fun x y=>!(ltOf sZ) y x
theorem Cc(l:List K):(zK l).Perm l:=List.mergeSort_perm _ _
theorem NJ{l:List K}{S:List E}(j:gM S)(m:l.Perm (S.map (·.1))):zK l=S.map (·.1):=by
 have h1:(zK l).Pairwise fun x y=>(!(ltOf sZ) y x)=true:=by
  refine List.pairwise_mergeSort (fun a b c h1 d=>?_) (fun a b=>?_) l
  .simp only[eK]at *
   exact FQ.ntrans _ _ _ d h1
  .rw[tQ,tQ];cases h:oT a b with
   | true=>rw[mY h];rfl
   | false=>simp
 have d:(S.map (·.1)).Pairwise fun x y=>(!(ltOf sZ) y x)=true:=by refine ea.2 (List.Pairwise.imp (fun {a b} h=>?_) j);rw[tQ,mY h];rfl
 refine List.Perm.eq_of_pairwise (fun a b _ _ ha i=>?_) h1 d ((Cc l).trans m);simp only[eK]at ha i;exact Dm a b i ha
theorem Fc(b:List K)(v:Q4)(base:Nat)(w:Q0)(S:w.ownsRow base 103 2 v (O b) (jX b))(o:base<=G (Q w))(hx:O b<=1000000000):
  Rg prog 176 #[v,.func (.func 138) #[] #[]] w fun e w'=>e=Ra (.tuple #[])/\pI w' v (zK b)/\Below base w w':=by
 obtain⟨hl,⟨rfl,U⟩|⟨g,cap,cur,rfl,B,d,hn,hc,Z,D⟩⟩:=S
 .obtain rfl:b=[]:=ch U;have h:=AnyF.slices_SortFunc_none Pm J 0 (.func (.func 138) #[] #[]) w;refine Calls.mono (P:=prog) h ?_;rintro e w' ⟨rfl,rfl⟩;exact⟨rfl,⟨by have:=gE.nil w' J 2 0;simpa [zK,jX]using this,fun g B=>by simp[Value.ownBlock]at B⟩,kz⟩
 .have l:=gm d;have hH:HoldsK yB 2 w g 0 (Rm b):=by
   intro j V;have s:j<O b*2:=by simpa using V
   have hk:=Gf b j s;have:cur.toList[j]?=N (flatK yB 2 (Rm b))[j]!:=by rw[<-hk,<-D,bF s]
   rw[bY];exact⟨by rw[aP w g j cur _ _ d,<-Array.getElem?_toList,this];rfl,dg w g j _ _ d⟩
  have W:∀args w,(callFunc 138 args).run prog w=.ok (.enter 138 args) w:=enters_of func138 (by kernel_rfl) rfl;have C:CmpLays prog 138 #[] yB 2 sZ g 0 b.toArray.size w:=by intro m os dk aa x y;exact DL x y _
  have h:=AnyQ.slices_SortFunc_total Pm 2 Tryz.isAgg103 Tryz.sizeOf103 yB (fun _=>rfl) (fun x v E=>by simp[yB]at E;rcases E with rfl|rfl<;>rfl) sZ FQ 138 #[] g 0 cap (Rm b) w W C hH l (by simp;omega) Dm;rw[show b.toArray.size=O b by simp]at h;refine Calls.mono (P:=prog) h ?_;rintro e w' ⟨rfl,q,os,rfl⟩;have u:=(Cc b).length_eq;have F:=holdsK_sortWorldK_c yB 2 w g 0 (Rm b) (zK b).toArray q os hH l (by simpa using u);refine⟨rfl,⟨⟨by rw[oZ],_,cap,by rw[u],by omega,fun i r=>⟨g,0,rfl,?_⟩⟩,fun g' M=>by cases M;obtain⟨cs,h⟩:=Cd yB 2 w g 0 q (zK b).toArray os d;exact⟨cs,_,h⟩⟩,zU yB 2 w g 0 q base _ os B o⟩;rw[oZ]at r;have X:=(F i (by simpa using r)).1;have R:=Gf (zK b) i r;refine X.trans ?_;rw[ah (by rw[oZ];exact r)]at R;exact R.symm
theorem FR(gf:Nat)(lb:Array Q4)(m:∀args w,(callFunc gf args).run prog w=.ok (.enter gf args) w)(j q:List K->Prop)(b:Nat)(u:b<=1000000000)(w:Q0)(i:∀n,1<=n->SeqStopsA Fence.wide n prog gf lb (fun k:K=>#[kV k]) j q b w)(l:∀d,j d->O d<=b):
  Rg prog 175 #[.func (.func gf) #[] lb] w fun e W'=>∃v d,e=Ra v/\j d/\W'.ownsRow (G (Q w)) 103 2 v (O d) (jX d)/\Below (G (Q w)) w W':=by
 have x:=gj (callsIn_wide.1 (Cx Fence.wide 3 cK rfl gH gf lb cK m j q b u w (i 2 (by omega)) l));clear i l m;go_enter func175,ntmps175;go_wp2_with fail;refine x.o.mono ?_;rintro e w1 ⟨v,d,rfl,r,s,y⟩;have B:=gj s;have C:=gj r;clear s r;go_wp2;go_ret;exact⟨v,d,rfl,C.o,B.o,y⟩
theorem rR(d b:Nat)(S:List E)(w:Q0)(s:d<G (Q w))(hm:Rn w ⟨d,0,J⟩=N (.map (N b)))(q:iE w b S)(M:O S<=1000000000):
  Rg prog 136 #[.func (.func 177) #[] #[Q5 (N ⟨d,0,J⟩)],.func (.func 138) #[] #[]] w fun e w'=>
   ∃v,e=Ra v/\pI w' v (S.map (·.1))/\Below (G (Q w)) w w':=by
 have R:=gj (FR 177 #[Q5 (N ⟨d,0,J⟩)] (enters_of func177 (by kernel_rfl) rfl)
  (fun i=>i.Perm (S.map (·.1))) (fun _=>True) (O S) M w (fun n U=>IW Fence.wide n cK rfl U d b S w s hm q) (fun i h=>by rw[h.length_eq,aB];exact aq _))
 have u:=gj q.sorted;clear q hm;go_enter func136,ntmps136;go_wp2_with fail;refine R.o.mono ?_;rintro e w1 ⟨v,i,rfl,r,x,y⟩;have B:O i=O S:=by rw[r.length_eq,aB]
 have j:=NJ u.o r;have C:=y.size;have l:=gj (Fc i v (G (Q w)) w1 x C (by omega));rw[j]at l;clear x r B j;go_wp2_with fail;refine l.o.mono ?_;rintro e w2 ⟨rfl,m,D⟩;have F:=gj m;clear m;go_wp2;go_ret;exact⟨v,rfl,F.o,y.trans D⟩
end Go.Proofs.YtkkfmkhbdoeglabGreatDoor
namespace Go.Proofs.YtkkfmkhbdoeglabGreatDoor
open Go renaming World->Q0,Value->Q4,Calls->Rg
open Go.Ending renaming returned->Ra
open Go.IntKind renaming i64->Y
open Go.Obj renaming cells->Q1
open Go.Value renaming int->I,pointer->Q5,slice->Q6,string->Q7
open Go.World renaming heap->Q,cell?->Rn,alloc->Ro
open List renaming length->O,toArray->Rm
open Option renaming none->J,some->N
open _root_.Array renaming size->G
open Go.Proofs.Tryz
open Go.RowKit
variable{Q' b:Exit->Act->Q0->Prop}{a:Act}{id x y z:Nat}{l:List Oper}{v:Q4}{w':Q0}
section
variable {P:Program} {iS:Array Oper} {md:Region.Mode} {w:Q0} {nF:Nat}
theorem Ck{F:Fence}(q:F.depth=J)(j:∀f,F.fn f)(hc:∀f args w R,Rg P f args w R->CallsIn F (nF-1) P f args w R)(s:∀(i:Nat) o,iS[i]?=N o->∀a:Act,o.semAt F.round a.eval=execOp a.eval o){i:Nat}{K:Act->Prop}{K':Act->Q0->Prop}(h:∀a,K a->K' a w)(b:stOp P iS w i K a):wpOpIn F nF P iS Q' i K' a w:=by
 unfold stOp at b;unfold wpOpIn;split
 .exact h _ (by simpa [*]using b)
 .rename_i o l;simp only[l]at b;split
  .rename_i d;simp only[d,dX]at b;unfold Oper.still at b;unfold Oper.wpIn;refine⟨fun f _=>j f,?_⟩;rw[s i o l a];generalize (execOp a.eval o).run P w=r at b;cases r with
   | ok x w'=>
    cases x<;>simp only[Oper.stillUpon]at b<;>simp only[Oper.uponIn]
    case enter f args=>obtain⟨rfl,v,m,u⟩:=b;refine⟨fun h=>by simp[q]at h,hc _ _ _ _ (m.mono fun e B ⟨he,d⟩=>?_)⟩;subst he;subst d;exact h _ u
    all_goals (obtain⟨rfl,y⟩:=b;exact h _ y)
   | halt x w'=>simp only[Oper.stillUpon]at b
  .rename_i d;simp only[d]at b;exact⟨fun f _=>j f,h _ b⟩
theorem uF{F:Fence}(d:F.depth=J)(b:∀f,F.fn f)(hc:∀f args w R,Rg P f args w R->CallsIn F (nF-1) P f args w R)(j:∀(i:Nat) o,iS[i]?=N o->∀a:Act,o.semAt F.round a.eval=execOp a.eval o){n g:Nat}{L:Array Bool->Act->Prop}(l:∀listed a,L listed a->wpAnyIn F nF P md iS Q' g listed a w):
  ∀(f:Nat) (listed:Array Bool) (a:Act),wpAnyL P md iS w n L f listed a->wpAnyIn F nF P md iS Q' (f+g) listed a w
 | 0,listed,a,h=>by rw[bY];exact l _ _ h
 | f+1,listed,a,h=>by rw[show f+1+g=(f+g)+1 by omega];exact⟨fun m=>absurd m h.1,fun i q=>Ck d b hc j (fun a' r=>uF d b hc j l f _ a' r) (h.2 i q).2⟩
theorem vu{F:Fence}: ∀(l:List Oper) (k:Nat) (listed:Array Bool) (a:Act) (w:Q0),(∀j,l[j]?=iS[k+j]?)->
  Region.seqB md iS (O l) k listed=true->wpListIn F nF P iS Q' l a w->wpAnyIn F nF P md iS Q' (O l) listed a w
 | [],_,_,_,_,_,b,h=>⟨by simpa [Region.seqB]using b,h⟩
 | o::l,k,listed,a,w,hl,b,h=>by
  have q:iS[k]?=N o:=by simpa using (hl 0).symm
  simp only[ao,Region.seqB,dQ,dI]at b;refine⟨fun h1=>(by rw[b.1]at h1;cases h1),fun i d=>?_⟩;rw[b.1]at d;have m:i=k:=by simpa using d
  subst m;have r:wpOpIn F nF P iS Q' i (wpListIn F nF P iS Q' l) a w:=by unfold wpOpIn;simp only[q];exact h
  exact wpOpIn_mono (fun a' w' s=>vu l (i+1) _ a' w' (fun j=>by have:=hl (j+1);simpa [bT,Nat.add_comm 1 j]using this) b.2 s) r
theorem pE{F:Fence}(M:F.depth=J)(u:∀f,F.fn f)(hc:∀f args w R,Rg P f args w R->CallsIn F (nF-1) P f args w R){w:Q0}(n:Nat)(hm:P.follows .mixedOrders=true)(S:∀(i:Nat) o,l.toArray[i]?=N o->∀a:Act,o.semAt F.round a.eval=execOp a.eval o)(x:Region.lexTailB .any (Rm l) n=true)(h:wpStill P (Rm l) {w with drawn:=w.drawn+1} (fun a'=>wpListIn F nF P (Rm l) b (l.drop n) a' {w with drawn:=w.drawn+1}) (l.take n) a):(Code.region id (Rm l) true).wpIn F nF P b a w:=by
 simp only[Region.lexTailB,dQ,dI]at x;obtain⟨⟨⟨⟨q,y⟩,U⟩,B⟩,r⟩:=x;have W:n<O l:=by simpa using y
 have d:(l.take n).length=n:=by simp;omega
 have m:(l.drop n).length=l.toArray.size-n:=by simp
 have s:HeadInv .any (Rm l) n (Array.replicate l.toArray.size false):=
  ⟨by simp,fun j X _ hl=>(by rw[getD_replicate_false]at hl;cases hl),fun t _ V=>getD_in (by simpa using V) (getD_replicate_false _ _)⟩
 have H:=wpAnyL_lex (md:=.any) (g:=l.toArray.size-n) q U B y (l.take n) 0 _ a (fun j C=>by
  have D:j<n:=by rw[d]at C;exact C
  simp[D]) (by simpa using d) s (by rw[d];exact r) h
 refine wpIn_region_any hm ?_;have:=uF (nF:=nF) (Q':=b) (g:=l.toArray.size-n) M u hc S (fun listed a' E=>by
  have:=vu (nF:=nF) (md:=.any) (F:=F) (Q':=b) (l.drop n) n listed a' {w with drawn:=w.drawn+1} (fun j=>by simp[]) (by rw[m];exact E.1) E.2
  rwa [m]at this) _ _ _ H
 rw[d,show n+(l.toArray.size-n)=l.toArray.size by omega]at this;exact this
theorem uv{w:Q0}(n:Nat)(hm:P.follows .mixedOrders=true)(d:Region.lexTailB .any (Rm l) n=true)(h:wpStill P (Rm l) {w with drawn:=w.drawn+1} (fun a'=>wpListIn Fence.wide nF P (Rm l) b (l.drop n) a' {w with drawn:=w.drawn+1}) (l.take n) a):(Code.region id (Rm l) true).wpIn Fence.wide nF P b a w:=
 pE rfl (fun _=>cK) (fun _ _ _ _ h=>callsIn_wide.2 h) n hm (fun _ _ _ _=>rfl) d h
end
open Go.Shelf Go.Sort
attribute [local go_sem] Oper.semAt_some
theorem xJ:∀(l:List K) (i:Nat) (h:i<O l),(jX l)[i*2]?=N (I Y l[i].1)/\(jX l)[i*2+1]?=N (Q7 ⟨l[i].2.toArray⟩)
 | k::l,0,_=>⟨rfl,rfl⟩
 | k::l,i+1,h=>by have ih:=xJ l i (by simpa using h);have e:jX (k::l)=I Y k.1::Q7 ⟨Rm k.2⟩::jX l:=rfl;rw[e,show(i+1)*2=i*2+1+1 by omega,show i*2+1+1+1=(i*2+1)+1+1 by omega];simpa using ih
theorem pI.gU{w:Q0}{l:List K}(h:pI w v l):
  ∃a cap,v=Q6 a (O l) cap/\O l<=cap/\∀i (h:i<O l),∃b off,a=N ⟨b,off,J⟩/\Rn w ⟨b,off+i*2,J⟩=N (I Y l[i].1)/\Rn w ⟨b,off+i*2+1,J⟩=N (Q7 ⟨l[i].2.toArray⟩):=by
 obtain⟨⟨_,a,cap,rfl,hc,d⟩,-⟩:=h;refine⟨a,cap,rfl,hc,fun i m=>?_⟩;have hl:=oZ l;obtain⟨j,h1⟩:=xJ l i m;obtain⟨b,off,rfl,c0⟩:=d (i*2) (by omega);obtain⟨q,r,o,c1⟩:=d (i*2+1) (by omega);cases o;rw[ah (by omega)]at j h1;exact⟨b,off,rfl,c0.trans j,(by rw[<-bT]at c1;exact c1.trans h1)⟩
structure jq(x yy z:Nat)(W W':Q0):Prop where
 size:G (Q W)<=G (Q W')
 three:∀k,k=x\/k=yy\/k=z->W'.heap[k]?=W.heap[k]?
 qM:∀(k:Nat) (cs:Array Q4) (fz:Nat×Nat),W.heap[k]?=N (Q1 cs 103 fz)->W'.heap[k]?=N (Q1 cs 103 fz)
theorem jq.refl(W:Q0):jq x y z W W:=⟨aq _,fun _ _=>rfl,fun _ _ _ h=>h⟩
theorem jq.trans{A B C:Q0}(h:jq x y z A B)(k:jq x y z B C):jq x y z A C:=
 ⟨au h.size k.size,fun i b=>(k.three i b).trans (h.three i b),fun i cs d b=>k.qM i cs d (h.qM i cs d b)⟩
theorem pI.kept{w:Q0}{l:List K}(h:pI w v l)(hk:jq x y z w w'):pI w' v l:=by
 obtain⟨h1,i⟩:=h;refine⟨h1.frame fun b j _=>?_,fun g m=>?_⟩
 .obtain⟨cs,d,h⟩:=i b j;rw[h,hk.qM b cs d h]
 .obtain⟨cs,d,h⟩:=i g m;exact⟨cs,d,hk.qM g cs d h⟩
theorem jq.iN{W W':Q0}(h:Below (G (Q W)) W W')(b:x<G (Q W))(d:y<G (Q W))(i:z<G (Q W)):jq x y z W W':=
 ⟨h.size,fun k hk=>h.block k (by rcases hk with rfl|rfl|rfl<;>assumption),fun k cs j hk=>(h.block k (gm hk)).trans hk⟩
theorem jt.kept{w:Q0}{q off r:Nat}{S:List E}(h:jt w q off r S)(hk:jq x q r w w'):jt w' q off r S:=
 ⟨(aS (a:=⟨q,off,J⟩) (hk.three q (.inr (.inl rfl)))).trans h.cell,h.jh.iI (hk.three r (.inr (.inr rfl)))⟩
theorem uD(s:ByteArray)(w:Q0):(Instr.field 226 (.agg #[Q7 s]) 0).run prog w=.ok (Q7 s) w:=by kernel_rfl
theorem wP(r:Nat)(w:Q0):Rg prog 137 #[.map (N r)] w fun e w'=>
  e=Ra (.func (.func 177) #[] #[Q5 (N ⟨G (Q w),0,J⟩)])/\w'=Ro w (Q1 #[.map (N r)] 162):=by
 go_enter func137,ntmps137;go_wp2;go_ret;exact⟨rfl,rfl⟩
theorem pN{β:Type}(f:β->E)(b:List β)(n:Nat)(j q off r:Nat)(S:List E)(X:b.map f=S)(w:Q0)(br:j<G (Q w))(hm:Rn w ⟨j,0,J⟩=N (Q5 (N ⟨q,off,J⟩)))(he:jt w q off r S)(hS:O S<=1000000000):
  SeqStopsK Fence.wide n prog 135 #[Q5 (N ⟨j,0,J⟩)] (fun y:β=>#[kV (f y).1,Q7 ⟨(f y).2.toArray⟩]) (jq j q r) (fun xs=>xs=b) (fun pre=>pre <+: b) (O S) w:=by
 intro l d Jx W hW hJ cb hY h0;have ap:O b=O S:=by rw[<-X,aB]
 have bt:=gj X;have av:=gj ap;clear X ap;have u:=he.below hW;have aE:Rn W ⟨j,0,J⟩=N (Q5 (N ⟨q,off,J⟩)):=(hW.cell (p:=⟨j,0,J⟩) br).trans hm;have cc:=hW.size;have bk:j<G (Q W):=by omega
 have cd:=u.lt;have ce:=u.jh.lt;have hc:=u.cell;have HE:=gj u;clear he hm u;have a0:Below (G (Q W)) W (Ro W (Q1 #[.map (N r)] 162)):=(gJ W).alloc gH _;have a1:=gj (rR (G (Q W)) r S (Ro W (Q1 #[.map (N r)] 162)) (by simp) (gr 0 (gB W (Q1 #[.map (N r)] 162))) (HE.o.below a0).jh hS);refine callsIn_of_wp func135 rfl cK ?_ rfl
 try simp only[ntmps135,dG,ao,aI,Nat.reduceAdd,Nat.reduceSub,bd,bf,bK,cY,aQ,aV]
 gi_wp2_with (first
  | (refine⟨cK,(fun h=>by simp[Fence.wide]at h),(callsIn_wide.2 (wP r W)).mono ?_⟩;rintro e w0 ⟨rfl,rfl⟩)
  | (refine⟨cK,(fun h=>by simp[Fence.wide]at h),(callsIn_wide.2 a1.o).mono ?_⟩;rintro e w1 ⟨v,rfl,R,a2⟩;obtain⟨sa,bl,rfl,-,-⟩:=R.gU;rw[aB]at *))
 have m:Below (G (Q W)) W w1:=a0.trans (a2.mono (by simp));have cg:=m.size;have hmx:O S<=bl:=by obtain⟨a',c',e,h,-⟩:=R.gU;obtain⟨-,-,rfl⟩:=Value.slice.inj e;simpa using h
 have bw:=gj R;have a3:=gj (HE.o.below m);have HJ:=gj hJ;have bz:gy (Rn w1 ⟨j,0,J⟩=N (Q5 (N ⟨q,off,J⟩))):=gj ((m.cell (p:=⟨j,0,J⟩) bk).trans aE);have a4:d [] w1:=hJ [] W w1 J h0 ⟨m.os,m.tape,m.output,m.size,fun k hk _=>m.block k hk⟩ (fun r e=>by cases e);clear R hc aE a1 a2
 gi_loopw [12] (fun i wr=>∃k:Nat,k<=O S/\i=I Y (k:Int)/\jq j q r w1 wr/\d (b.take k) wr) (fun i _=>O S-(intOf i).toNat)
 case atStart=>exact⟨0,aJ _,rfl,jq.refl _,a4⟩
 case round=>
  clear a4;obtain⟨k,hk,rfl,B,Z⟩:=hrel;have ci:=B.size;by_cases aa:k<O S
  .have g1:(k:Int)<O S:=by omega
   obtain⟨cl,b3,e,-,hx⟩:=(bw.o.kept B).gU;obtain⟨rfl,-,rfl⟩:=Value.slice.inj e;obtain⟨kb,ko,rfl,c0,c1⟩:=hx k (by simpa using aa);obtain⟨x,U⟩:∃x,x=S[k]:=⟨_,rfl⟩;have ag:k<O b:=by rw[av.o];exact aa
   obtain⟨y,ak⟩:∃y,y=b[k]:=⟨_,rfl⟩;have a5:f y=x:=by rw[ak,U];have h1:=bt.o;subst h1;rw[eA]
   rw[eA,<-U]at c0 c1;obtain⟨⟨T,F⟩,VB⟩:=x;simp only at c0 c1;have al:=gj (a3.o.kept B);have hg:ku (T,F) S=N VB:=(se a3.o.jh.sorted.qM _ _).2 (by rw[U];exact bq aa);have a6:b.take (k+1)=b.take k++[y]:=by rw[ak];exact(List.take_append_getElem ag).symm
   have bE:=gj a5;have cm:=gj ag;have a7:=gj a6;have am:Rn wr ⟨j,0,J⟩=N (Q5 (N ⟨q,off,J⟩)):=(aS (a:=⟨j,0,J⟩) (B.three j (.inl rfl))).trans bz.o;have a8:=al.o.cell;have a9:=gK am;have bH:=gK a8;have cn:=gK c0;have C:Below (G (Q wr)) wr (Ro wr (Q1 #[I Y T,Q7 ⟨Rm F⟩] 103)):=(gJ wr).alloc gH _;have bI:=gj am;have bL:=hg;clear U a6 hg hx hk ak a5 ag;have HG:=gj bL
   gi_wp2
   have M:=gB wr (Q1 #[I Y T,Q7 ⟨Rm F⟩] 103);have bM:(Ro wr (Q1 #[I Y T,Q7 ⟨Rm F⟩] 103)).heap.size=G (Q wr)+1:=by simp
   have ba:gy (d (b.take k) (Ro wr (Q1 #[I Y T,Q7 ⟨Rm F⟩] 103))):=gj (HJ.o _ wr _ J Z (ek wr _ J) (fun r e=>by cases e));generalize bb:Ro wr (Q1 #[I Y T,Q7 ⟨Rm F⟩] 103)=D;rw[bb]at C M bM ba;clear bb c0 c1 am a8;have bc:=gj (al.o.below C);have bN:Rn D ⟨j,0,J⟩=N (Q5 (N ⟨q,off,J⟩)):=(C.cell (p:=⟨j,0,J⟩) a9).trans bI.o;have bO:=bc.o.cell;have bP:=uD ⟨Rm VB⟩ D.drew;have s:=iE.lookup (w:=D.drew) (bc.o.jh.iI rfl) (mt:=162) underlying162 (uy _) (T,F);rw[HG.o]at s;simp only[kV,nd,nW,bZ]at s;have d0:=gr 0 M;have d1:=gr 1 M;refine uv 9 (by kernel_rfl) (by kernel_rfl) ?_;simp only[aN,bp,cN,bC]
   repeat still_step
   refine wpStill_nil ?_;have bR:d (b.take k) D.drew:=HJ.o _ D _ J ba.o ⟨rfl,rfl,rfl,aq _,fun _ _ _=>rfl⟩ (fun r e=>by cases e);obtain⟨fn,tmps,assign,body,hy,hR⟩:=hY (b.take k) y D.drew bR (by rw[ax];omega);rw[bE.o]at hy;simp only[kV,nd]at hy;have bX:jq j q r w1 D.drew:=B.trans (jq.trans (jq.iN C a9 bH al.o.jh.lt) ⟨aq _,fun _ _=>rfl,fun _ _ _ h=>h⟩);clear s d0 d1 bN bO bP;have co:G (Q wr)<=D.drew.heap.size:=C.size
   gi_wp2
   refine⟨(fun h=>by simp[Fence.wide]at h),hR.mono ?_⟩;rintro e W3 (⟨rfl,b1,b2⟩|⟨rfl,bn⟩)
   .gi_wp2
    have V:∃k':Nat,k'<=O S/\I Y ((k:Int)+1)=I Y (k':Int)/\jq j q r w1 W3/\d (b.take k') W3:=⟨k+1,by omega,rfl,bX.trans b2,by rw[a7.o];exact b1⟩;simp only[aB];refine⟨?_,?_⟩
    .first
      | exact V
      | ((repeat apply Exists.intro);exact⟨V,rfl⟩)
    .simp[intOf];omega
   .gi_wp2
    refine ai (ef rfl _ _ _) rfl ?_;exact⟨⟨_,rfl⟩,.inr ⟨_,(by rw[<-a7.o];exact List.take_prefix _ _),bn⟩⟩
  .obtain rfl:k=O S:=by omega
   have g1:¬(O S:Int)<O S:=by omega
   gi_wp2
   go_end0;rw[<-av.o,aM]at Z;exact⟨⟨_,rfl⟩,.inl Z⟩
end Go.Proofs.YtkkfmkhbdoeglabGreatDoor
namespace Go.Proofs.YtkkfmkhbdoeglabGreatDoor
open Go renaming World->Q0,Value->Q4,Calls->Rg
open Go.Ending renaming returned->Ra
open Go.IntKind renaming i64->Y
open Go.Obj renaming cells->Q1
open Go.Value renaming int->I,pointer->Q5,slice->Q6,string->Q7
open Go.World renaming heap->Q,cell?->Rn,alloc->Ro
open List renaming length->O,toArray->Rm
open Option renaming none->J,some->N
open _root_.Array renaming size->G
open Go.Proofs.Tryz
open Go.RowKit Go.Shelf Go.Sort
theorem k9(t:Int)(w:Q0)(b:0<=t)(d:t<3):
  Rg prog 181 #[I Y t] w fun e w'=>e=Ra (.tuple #[I Y (gL t),I Y (iu t)])/\w=w':=by
 have:t=0\/t=1\/t=2:=by omega
 rcases this with rfl|rfl|rfl
 all_goals
  go_enter func181,ntmps181;go_wp2;go_ret2;exact⟨rfl,rfl⟩
theorem jU(v:Nat)(w:Q0)(q:v<18446744073709551616):
  Rg prog 98 #[I .u64 v] w fun e w'=>e=Ra (.bool (ij v))/\w=w':=by
 unfold ij;by_cases b:v=0
 .subst b;go_enter func98,ntmps98;go_wp2;go_ret;exact⟨rfl,rfl⟩
 .have j:((v:Int) != 0)=true:=by rw[eB];omega
  have d:0<v:=by omega
  by_cases h1:v<18446744073709551615
  .have l:(v:Int)<18446744073709551615:=by omega
   have m:((v:Int)+1 != 0)=true:=by rw[eB];omega
   clear b;go_enter func98,ntmps98;go_wp2;go_ret;exact⟨by simp[d,h1],rfl⟩
  .have hm:v=18446744073709551615:=by omega
   have r:IntKind.u64.wrap ((v:Int)+1)=0:=by subst hm;rfl
   have i:=gj h1;clear b h1 hm;go_enter func98,ntmps98;go_wp2;go_ret;exact⟨by simp[i.o],rfl⟩
def px(d a b:Nat):Nat:=d%2^(32-a) / 2^(32-b)
theorem Ig(b a:Nat):px b a a=0:=Nat.div_eq_of_lt (Nat.mod_lt _ (fM _))
theorem Ih(b a k:Nat)(ha:a<=k)(hk:k<32):px b a (k+1)=2*px b a k+b / 2^(31-k)%2:=by
 unfold px;have d:32-(k+1)=31-k:=by omega
 have i:32-k=(31-k)+1:=by omega
 rw[d,i,Nat.pow_succ,<-Nat.div_div_eq_div_mul];have h1:b%2^(32-a) / 2^(31-k)%2=b / 2^(31-k)%2:=by
  have j:32-a=(31-k)+((k-a)+1):=by omega
  rw[j,Nat.pow_add,Nat.mod_mul_right_div_self];rw[Nat.pow_succ,Nat.mul_comm];exact Nat.mod_mul_right_mod _ _ _
 omega
theorem MD(b a k:Nat)(_ha:a<=k)(_hk:k<=32):px b a k<4294967296:=by unfold px;refine fQ (Nat.div_le_self _ _) (ae (Nat.mod_lt _ (fM _)) ?_);exact au (dU (by decide) (by omega:32-a<=32)) (by decide)
theorem Pv(b d i j:UInt8)(r:gw)(k:Nat)(hk:k<32):
  ∃y:UInt8,(b::d::i::j::r)[k / 8]?=N y/\y.toNat / 2^(7-k%8)%2=j5 b d i j / 2^(31-k)%2:=by
 have m:=b.toNat_lt;have h1:=d.toNat_lt;have o:=i.toNat_lt;have q:=j.toNat_lt;unfold j5;have l:k=0\/k=1\/k=2\/k=3\/k=4\/k=5\/k=6\/k=7\/k=8\/k=9\/k=10\/k=11\/k=12\/k=13\/k=14\/k=15\/k=16\/k=17\/k=18\/k=19\/k=20\/k=21\/k=22\/k=23\/k=24\/k=25\/k=26\/k=27\/k=28\/k=29\/k=30\/k=31:=by omega
 rcases l with rfl|rfl|rfl|rfl|rfl|rfl|rfl|rfl|rfl|rfl|rfl|rfl|rfl|rfl|rfl|rfl|rfl|rfl|rfl|rfl|rfl|rfl|rfl|rfl|rfl|rfl|rfl|rfl|rfl|rfl|rfl|rfl
 all_goals
  refine⟨_,rfl,?_⟩;simp only[Nat.reduceMod,Nat.reduceSub,Nat.reducePow];omega
theorem ve(d l m s:UInt8)(r:gw)(a b:Nat)(w:Q0)(F:a<=b)(V:b<=32)(_hr:O r<=9223372036854775000):
  Rg prog 182 #[Q7 ⟨(d::l::m::s::r).toArray⟩,I Y a,I Y b] w fun e w'=>e=Ra (I Y (px (j5 d l m s) a b))/\w=w':=by
 go_enter func182,ntmps182;go_wp2;go_loop [7,8] (fun n i=>∃k:Nat,a<=k/\k<=b/\i=I Y k/\n=I Y (px (j5 d l m s) a k)) (fun _ i=>b-(intOf i).toNat)
 case atStart=>exact⟨a,by omega,by omega,rfl,by rw[Ig];rfl⟩
 case round=>
  obtain⟨k,u,M,rfl,rfl⟩:=hrel;by_cases h:k<b
  .have H:=gj (Ih (j5 d l m s) a k u (by omega));obtain⟨y,B,x⟩:=Pv d l m s r k (by omega);have R:=MD (j5 d l m s) a k u (by omega);have C:=gj x;have S:∀w,(Instr.index 9 (Q7 ⟨(d::l::m::s::r).toArray⟩) (I Y ((k:Int) / 8))).run prog w=.ok (I .u8 y.toNat) w:=fun w=>gW underlying9 _ _ ((k:Int) / 8) y (by omega) (by rw[show((k:Int) / 8).toNat=k / 8 by omega];exact B) w;have U:=y.toNat_lt;generalize px (j5 d l m s) a k=n at *
   clear B x;have D:k<32:=by omega
   go_wp2;go_round
   case rel=>
    refine⟨k+1,by omega,by omega,by go_num,?_⟩;rw[H.o,<-C.o];generalize 7-k%8=j;have E:((y.toNat:Int) / 2^j)=((y.toNat / 2^j:Nat):Int):=by rw[Int.natCast_ediv,Int.natCast_pow];rfl
    have hq:y.toNat / 2^j<=255:=au (Nat.div_le_self _ _) (by omega);rw[E];generalize y.toNat / 2^j=q at *
    rw[IntWalk.wrap64_in (q:Int) (by omega),Int.tmod_eq_emod_of_nonneg (by omega),IntWalk.wrap64_in _ (by omega)];congr 1
   case measure=>simp[intOf];omega
  .obtain rfl:k=b:=by omega
   go_wp2;go_ret;exact⟨rfl,rfl⟩
theorem OH(b e:Nat)(h:e<=32):(b*2^e%4294967296==0)=(px b e 32==0):=by
 have d:b*2^e%4294967296=b%2^(32-e)*2^e:=by rw[show 4294967296=2^(32-e)*2^e by rw[<-Nat.pow_add,show 32-e+e=32 by omega],Nat.mul_mod_mul_right]
 have i:2^e≠0:=Nat.ne_of_gt (fM e);unfold px;rw[d,cS,aT,aT,ee,Nat.pow_zero,Nat.div_one,Nat.mul_eq_zero];exact⟨fun h=>h.resolve_right i,.inl⟩
theorem Jr(a b c d e f:UInt8)(w:Q0):
  Rg prog 139 #[I Y 0,Q7 ⟨[a,b,c,d,e,f].toArray⟩] w fun e w'=>e=Ra (.bool (a.toNat%2==0))/\w=w':=by
 have ha:=a.toNat_lt;have i0:∀w,(Instr.index 9 (Q7 ⟨[a,b,c,d,e,f].toArray⟩) (I Y 0)).run prog w=.ok (I .u8 a.toNat) w:=fun w=>gW underlying9 _ _ 0 a (by decide) rfl w;go_enter func139,ntmps139;go_wp2_with (go_at_call 181;refine(k9 0 _ (by omega) (by omega)).mono ?_;rintro e w' ⟨rfl,rfl⟩;simp only[gL,iu]);go_ret;have he:((a.toNat:Int)%2==0)=(a.toNat%2==0):=by
  rcases de a.toNat with h|h
  .rw[h,show((a.toNat:Int)%2)=0 by omega];rfl
  .rw[h,show((a.toNat:Int)%2)=1 by omega];rfl
 exact⟨by simp[he],rfl⟩
theorem Js(a b c d e:UInt8)(w:Q0)(i:e.toNat<=32):
  Rg prog 139 #[I Y 1,Q7 ⟨[a,b,c,d,e].toArray⟩] w fun r w'=>r=Ra (.bool (j5 a b c d*2^e.toNat%4294967296==0))/\∃n,w'=w.drewN n:=by
 have he:=e.toNat_lt;have i4:∀w,(Instr.index 9 (Q7 ⟨[a,b,c,d,e].toArray⟩) (I Y 4)).run prog w=.ok (I .u8 e.toNat) w:=fun w=>gW underlying9 _ _ 4 e (by decide) rfl w;have u:∀w,(Instr.slice 9 (Q7 ⟨[a,b,c,d,e].toArray⟩) J (N (I Y 4)) J).run prog w=.ok (Q7 ⟨[a,b,c,d].toArray⟩) w:=fun w=>xd underlying9 [a,b,c,d,e] _ 4 (by decide) (by simp) w;have x:(e.toNat:Int)<=32:=by omega
 have j:∀w,Rg prog 182 #[Q7 ⟨[a,b,c,d].toArray⟩,I Y e.toNat,I Y 32] w fun r w'=>r=Ra (I Y (px (j5 a b c d) e.toNat 32))/\w=w':=fun w=>ve a b c d [] e.toNat 32 w i (by omega) (by simp);have l:=gj j;clear j;have m:=gj (OH (j5 a b c d) e.toNat i);go_enter func139,ntmps139;go_wp2_with (go_at_call 181;refine(k9 1 _ (by omega) (by omega)).mono ?_;rintro e w' ⟨rfl,rfl⟩;simp only[gL,iu]);go_quiet ((first|(go_at_call 182;exact Calls.quiet_of_same ((l.o _).mono fun _ _ ⟨h1,q⟩=>⟨h1,q.symm⟩))));go_wp2;go_ret;have s:((px (j5 a b c d) e.toNat 32:Int)==0)=(px (j5 a b c d) e.toNat 32==0):=by rw[cS,aT,aT];omega
 exact⟨by rw[m.o];simp[s],_,rfl⟩
theorem GY(a b c d e:UInt8)(w:Q0)(j:¬e.toNat<=32):
  Rg prog 139 #[I Y 1,Q7 ⟨[a,b,c,d,e].toArray⟩] w fun r w'=>r=Ra (.bool false)/\∃n,w'=w.drewN n:=by
 have he:=e.toNat_lt;have i4:∀w,(Instr.index 9 (Q7 ⟨[a,b,c,d,e].toArray⟩) (I Y 4)).run prog w=.ok (I .u8 e.toNat) w:=fun w=>gW underlying9 _ _ 4 e (by decide) rfl w;have i:¬(e.toNat:Int)<=32:=by omega
 have l:decide ((e.toNat:Int)<=32)=false:=aF i;go_enter func139,ntmps139;go_wp2_with (go_at_call 181;refine(k9 1 _ (by omega) (by omega)).mono ?_;rintro e w' ⟨rfl,rfl⟩;simp only[gL,iu]);go_quiet (fail);go_wp2;go_ret;exact⟨rfl,_,rfl⟩
theorem Jt(a b:UInt8)(w:Q0):
  Rg prog 139 #[I Y 2,Q7 ⟨[a,b].toArray⟩] w fun r w'=>r=Ra (.bool true)/\w=w':=by
 go_enter func139,ntmps139;go_wp2_with (go_at_call 181;refine(k9 2 _ (by omega) (by omega)).mono ?_;rintro e w' ⟨rfl,rfl⟩;simp only[gL,iu]);go_ret;exact⟨rfl,rfl⟩
theorem EY(t:Int)(k:gw)(w:Q0)(b:0<=t)(d:t<3)(_hl:O k<=im)(hk:O k≠gL t):
  Rg prog 139 #[I Y t,Q7 ⟨Rm k⟩] w fun r w'=>r=Ra (.bool false)/\w=w':=by
 have j:((O k:Int) != gL t)=true:=by rw[eB];omega
 unfold im at _hl;clear hk;have hc:=k9 t;generalize gL t=l at *
 generalize iu t=m at *
 have i:=gj hc;clear hc;go_enter func139,ntmps139;go_wp2_with (go_at_call 181;refine(i.o _ b d).mono ?_;rintro e w' ⟨rfl,rfl⟩);go_ret;exact⟨rfl,rfl⟩
theorem xU(t:Int)(k:gw)(w:Q0)(l:0<=t)(i:t<3)(hl:O k<=im):
  Rg prog 139 #[I Y t,Q7 ⟨Rm k⟩] w fun r w'=>r=Ra (.bool (js t k))/\∃n,w'=w.drewN n:=by
 by_cases hk:O k=gL t
 .have:t=0\/t=1\/t=2:=by omega
  rcases this with rfl|rfl|rfl
  .obtain⟨a,b,c,d,e,f,rfl⟩:=Kl hk;exact(Jr a b c d e f w).mono fun _ _ ⟨h1,i⟩=>⟨h1,0,i.symm⟩
  .obtain⟨a,b,c,d,e,rfl⟩:=EN hk;by_cases j:e.toNat<=32
   .refine(Js a b c d e w j).mono fun _ _ ⟨h1,i⟩=>⟨?_,i⟩;rw[h1];simp[js,j]
   .refine(GY a b c d e w j).mono fun _ _ ⟨h1,i⟩=>⟨?_,i⟩;rw[h1];simp[js,j]
  .obtain⟨a,b,rfl⟩:=tY hk;exact(Jt a b w).mono fun _ _ ⟨h1,i⟩=>⟨h1,0,i.symm⟩
 .rw[wO hk];exact(EY t k w l i hl hk).mono fun _ _ ⟨h1,i⟩=>⟨h1,0,i.symm⟩
theorem BO(t:Int)(k:gw)(w:Q0)(b:0<=t)(d:t<3)(_hl:O k<=im)(hk:O k≠iu t):
  Rg prog 140 #[I Y t,Q7 ⟨Rm k⟩] w fun r w'=>r=Ra (.bool false)/\w=w':=by
 have j:((O k:Int) != iu t)=true:=by rw[eB];omega
 unfold im at _hl;clear hk;have hc:=k9 t;generalize gL t=l at *
 generalize iu t=m at *
 have i:=gj hc;clear hc;go_enter func140,ntmps140;go_wp2_with (go_at_call 181;refine(i.o _ b d).mono ?_;rintro e w' ⟨rfl,rfl⟩);go_ret;exact⟨rfl,rfl⟩
theorem P3(a b c d:UInt8):(!a==0 || (!b==0 || (!c==0 || !d==0)))=(j5 a b c d != 0):=by have ha:=a.toNat_lt;have i:=b.toNat_lt;have hc:=c.toNat_lt;have j:=d.toNat_lt;rw[cS,eB];unfold j5;simp only[dK,eK,ar,ne_eq,<-dO,UInt8.toNat_zero];omega
theorem zR(t:Int)(a b c d:UInt8)(w:Q0)(j:0<=t)(l:t<2):
  Rg prog 140 #[I Y t,Q7 ⟨[a,b,c,d].toArray⟩] w fun r w'=>r=Ra (.bool (j5 a b c d != 0))/\w=w':=by
 have i:=gj (P3 a b c d);have:t=0\/t=1:=by omega
 rcases this with rfl|rfl
 all_goals
  go_enter func140,ntmps140;go_wp2_with (go_at_call 181;refine(k9 _ _ (by omega) (by omega)).mono ?_;rintro e w' ⟨rfl,rfl⟩;simp only[gL,iu]);go_ret;exact⟨bm (fun b=>Ra (.bool b)) i.o,rfl⟩
theorem BN(a b:UInt8)(w:Q0):
  Rg prog 140 #[I Y 2,Q7 ⟨[a,b].toArray⟩] w fun e w'=>e=Ra (.bool ((a.toNat==0 || a.toNat==6 || a.toNat==17)&&decide (b.toNat<=1)))/\w=w':=by
 have i0:∀w,(Instr.index 9 (Q7 ⟨[a,b].toArray⟩) (I Y 0)).run prog w=.ok (I .u8 a.toNat) w:=fun w=>gW underlying9 _ _ 0 a (by decide) rfl w;have i1:∀w,(Instr.index 9 (Q7 ⟨[a,b].toArray⟩) (I Y 1)).run prog w=.ok (I .u8 b.toNat) w:=fun w=>gW underlying9 _ _ 1 b (by decide) rfl w;have r:decide ((b.toNat:Int)<=1)=decide (b.toNat<=1):=by rw[cS];simp;omega
 have hc:∀n:Nat,((a.toNat:Int)==n)=(a.toNat==n):=fun n=>by rw[cS,aT,aT];omega
 have j:=hc 0;have l:=hc 6;have d:=hc 17;have ha:=a.toNat_lt;have s:=b.toNat_lt;clear hc;cases m:(a.toNat==0)<;>cases o:(a.toNat==6)<;>cases i:(a.toNat==17)
 all_goals
  rw[m]at j;rw[o]at l;rw[i]at d;have e0:((a.toNat:Int)==0)=_:=j;have u:((a.toNat:Int)==6)=_:=l;have q:((a.toNat:Int)==17)=_:=d;clear j l d m o i;go_enter func140,ntmps140;go_wp2_with (go_at_call 181;refine(k9 2 _ (by omega) (by omega)).mono ?_;rintro e w' ⟨rfl,rfl⟩;simp only[gL,iu]);go_ret;exact⟨by simp,rfl⟩
theorem rO(t:Int)(k:gw)(w:Q0)(i:0<=t)(j:t<3)(hl:O k<=im):
  Rg prog 140 #[I Y t,Q7 ⟨Rm k⟩] w fun e w'=>e=Ra (.bool (jb t k))/\w=w':=by
 by_cases hk:O k=iu t
 .by_cases l:t=2
  .subst l;obtain⟨a,b,rfl⟩:=tY hk;exact BN a b w
  .have m:O k=4:=by unfold iu at hk;split at hk<;>simp_all;omega
   obtain⟨a,b,c,d,rfl⟩:=Ak m;have e:jb t [a,b,c,d]=(j5 a b c d != 0):=by unfold jb;rw[af l]
   rw[e];exact zR t a b c d w i (by omega)
 .rw[tW i j hk];exact BO t k w i j hl hk
theorem MA(v k:Nat)(h:k<8):(nC v).drop (7-k)=UInt8.ofNat (v / 256^k)::(nC v).drop (8-k):=by rw[cD (by rw[iB];omega),show 7-k+1=8-k by omega];congr 1;simp only[nC,eA,List.getElem_range];rw[show 56-8*(7-k)=8*k by omega,Nat.pow_mul]
theorem mS(v:Nat)(w:Q0)(j:v<18446744073709551616):
  Rg prog 67 #[I .u64 v] w fun e w'=>e=Ra (Q7 ⟨(nC v).toArray⟩)/\Below (G (Q w)) w w':=by
 go_enter func67,ntmps67;go_wp2;go_loopw [0,3,4] (fun x s i wr=>∃k:Nat,k<=8/\i=I Y k/\x=I .u64 ((v / 256^k:Nat))/\s=Q7 ⟨((nC v).drop (8-k)).toArray⟩/\Below (G (Q w)) w wr) (fun _ _ i _=>8-(intOf i).toNat)
 case atStart=>exact⟨0,by omega,rfl,by simp,by simp[nC],kz⟩
 case round=>
  obtain⟨k,hk,rfl,rfl,rfl,d⟩:=hrel;by_cases l:k<8
  .have r:(k:Int)<8:=by omega
   have H:=gj (MA v k l);have m:=gj (show v / 256^k / 256=v / 256^(k+1) by rw[Nat.div_div_eq_div_mul,Nat.pow_succ]);have u:v / 256^k<18446744073709551616:=fQ (Nat.div_le_self _ _) j;have y:((nC v).drop (8-k)).length<=8:=by rw[bu,iB];omega
   generalize v / 256^k=x at *
   generalize (nC v).drop (8-k)=s at *
   have q:((UInt8.ofNat x).toNat:Int)=(x:Int)%256:=by simp
   have b:=fun w=>ow w (UInt8.ofNat x);rw[q]at b
   go_wp2_with (first
    | (refine iL rfl (.tmp 11) rfl [UInt8.ofNat x] (b _) ?_)
    | (refine lh rfl (.tmp 12) (.tmp 13) rfl [UInt8.ofNat x] s rfl rfl (by simp;omega) ?_))
   go_roundw
   case rel=>
    refine⟨k+1,by omega,by go_num,?_,?_,(d.alloc d.size _)⟩
    .rw[<-m.o];rfl
    .rw[show 8-(k+1)=7-k by omega,H.o]
   case measure=>simp[intOf];omega
  .obtain rfl:k=8:=by omega
   go_wp2;go_ret;exact⟨by simp,d⟩
end Go.Proofs.YtkkfmkhbdoeglabGreatDoor
