/- Lemmas of the proof. No condition. -/
import Derived.Maps.OwnIn
import Derived.Test.YtkkfmkhbdoeglabGreatDoorV03
set_option maxHeartbeats 2000000
set_option maxRecDepth 100000
namespace Go.Proofs.YtkkfmkhbdoeglabGreatDoor
open Go renaming World->Q0,Value->Q4,TypeId->Ri
open Go.IntKind renaming i64->Y
open Go.Value renaming int->I,pointer->Q5,string->Q7,agg->Q9,tuple->Rc,bool->Rh
open Go.World renaming heap->Q,cell?->Rn,alloc->Ro
open List renaming length->O,toArray->Rm
open Option renaming none->J,some->N
open _root_.Array renaming size->G
open Go.Proofs.Tryz
open Go.RowKit
variable{L:List (K×Q4)}{at' to v:Nat}{b:List K}{f:Nat×Nat}{k s:gw}{t:Int}{w':Q0}
theorem PN(T:Int)(R W:Nat)(hT:T=0/\R=6/\W=4\/T=1/\R=5/\W=4\/T=2/\R=2/\W=2)(base c r:Nat)(cu:Cu)(x y:UInt8)(d:List K)(w:Q0)(h:jd w base c cu)(hm:kg w r d)(hg:gZ w)(fl:2<=base)(hb:base<=G (Q w))(bN:c<r)(hh:(cu.take 2).2=[x,y])(hx:(x.toNat:Int)=2)(hy:(y.toNat:Int)=T)(hf:(cu.take 2).1.f=J):
  Calls prog 187 #[Q5 (N ⟨c,0,J⟩),.map (N r)] w fun e w'=>e=.returned (ud ((cu.take 2).1.pS 2 T d R W).2)/\jd w' base c ((cu.take 2).1.pS 2 T d R W).1/\(((cu.take 2).1.pS 2 T d R W).1.f=J->kg w' r (d++[(T,((cu.take 2).1.pS 2 T d R W).2.key)]))/\gR (fun i=>i=c\/i=r) w w':=by
 rcases hT with ⟨hT,hK,hV⟩|⟨hT,hK,hV⟩|⟨hT,hK,hV⟩
 all_goals
  rw[hT]at hy;have HT:=gj hT;have HK:=gj hK;have HV:=gj hV;clear hT hK hV;have H0:=gj (gB w (.cells #[I Y 0,I Y 0,Q7 ⟨#[]⟩,Q7 ⟨#[]⟩] 105));have ct:=h.lt;have cv:=hm.lt;have fn:base<=c:=h.2.2.2.1;have fo:G (Q w)<(Ro w (.cells #[I Y 0,I Y 0,Q7 ⟨#[]⟩,Q7 ⟨#[]⟩] 105)).heap.size:=by simp
  have cB:kg (Ro w (.cells #[I Y 0,I Y 0,Q7 ⟨#[]⟩,Q7 ⟨#[]⟩] 105)) r d:=ix.iI hm (heap_alloc_old _ _ cv);have c1:=hg.alloc (.cells #[I Y 0,I Y 0,Q7 ⟨#[]⟩,Q7 ⟨#[]⟩] 105);go_enter func187,ntmps187;go_wp2_with fail;refine(nb base c cu 2 _ (h.iI ((gJ w).alloc gH _)) (by simp;omega) (by decide) (by decide)).mono ?_;rintro e w1 ⟨v,rfl,hv,-,bO,X⟩;rw[hh]at hv;obtain⟨a,cap,rfl,ce,a4⟩:=hv.gU;obtain⟨b,off,rfl,av⟩:=a4 0 (by simp);obtain⟨b',d7,he,c3⟩:=a4 1 (by simp);cases he;simp only[cL,cG,eG]at av c3;have d8:=gK av;clear a4 hv;simp only[ao,aI]at ce;have B:=X.size;have A1:=gj (jS X H0.o (by omega));have eb:=bO.lt;have c5:kg w1 r d:=ix.iI cB (X.block r (by simp;omega) (fun e=>by cases e;omega));have a5:=c1.grown X (by omega);have fp:=a5.two;go_wp2;go_region;go_wp2_with fail;refine(kZ base c _ _ 6 _ (bO.iI (((gJ w1).alloc gH _).drew)) (by simp at B⊢;omega)).mono ?_;rintro e w2 ⟨rfl,a6,C⟩;have B2:=gj (jS C (gB w1 _) (by omega));have A2:=gj (jS C (gP w1 _ A1.o) (by omega));have bP:kg w2 r d:=ix.iI c5 ((C.block r (by simp at B⊢;omega) (fun e=>by cases e;omega)).trans (heap_alloc_old w1 _ (by simp at B;omega)));have c6:=(a5.new (((gJ w1).alloc gH _).drew)).grown C (by omega);have q0:Rn w2 ⟨G (Q w1),0,J⟩=N _:=gr 0 B2.o;have q1:Rn w2 ⟨G (Q w1),1,J⟩=N _:=gr 1 B2.o;have ed:=gm B2.o;have a7:=C.size;simp only[Cu.rA]at a6;go_wp2_with fail;refine(kZ base c _ _ 6 _ a6 (by simp at B a7⊢;omega)).mono ?_;rintro e w3 ⟨rfl,S,D⟩;have c7:=D.size;have B3:=gj (jS D B2.o (by omega));have A3:=gj (jS D A2.o (by omega));have bR:kg w3 r d:=ix.iI bP (D.block r bP.lt (fun e=>by cases e;omega));have Z:=c6.grown D (by omega);simp only[Cu.rA]at S;clear q0 q1;have q1:Rn w3 ⟨G (Q w1),1,J⟩=N _:=gr 1 B3.o;have k3:=S.nt hf;have el:=S.lt;have em:=gm B3.o;have z0:=Z.c0;have z2:=Z.c2;have z4:=Z.c4;have z:=Z.two;go_wp2_with fail;have TK:=nb base c _ R _ S (by simp at B a7 c7⊢;omega) (by rw[HK.o];decide) (by rw[HK.o];decide);rw[HK.o]at TK;refine TK.mono ?_;clear TK;rintro e w4 ⟨v4,rfl,a8,-,cl,E⟩;obtain⟨j,a9,a8⟩:=a8.name;have ba:=gj a9;have fr:O j<=6:=by rw[a9,Cu.take_length];decide
  clear a9 z0 z2 z4 z q1 k3;have fx:=E.size;have B4:=gj (jS E B3.o (by omega));have A4:=gj (jS E A3.o (by omega));have bS:kg w4 r d:=ix.iI bR (E.block r bR.lt (fun e=>by cases e;omega));have cm:=Z.grown E (by omega);have q0:Rn w4 ⟨G (Q w1),0,J⟩=N _:=gr 0 B4.o;have q1:Rn w4 ⟨G (Q w1),1,J⟩=N _:=gr 1 B4.o;have q2:Rn w4 ⟨G (Q w1),2,J⟩=N _:=gr 2 B4.o;have f2:=gD 2 B4.o;have eo:=gm B4.o;go_wp2_with (refine iL rfl (.tmp 48) rfl j a8 ?_);have er:G (Q w)+1<=G (Q w1):=by simpa using B
  have eD:G (Q w1)+1<=G (Q w2):=by simpa using a7
  have G4:=jg (gJ w4) 2 (Q7 ⟨Rm j⟩) (c:=G (Q w1));have B5:=gj (QN w4 (G (Q w1)) 2 (Q7 ⟨Rm j⟩) B4.o);have A5:=gj (jS G4 A4.o (by omega));have cn:=cl.grown G4 (by omega) (fun k n=>by rw[B4.o];simp);have bX:kg (World.setCell w4 ⟨G (Q w1),2,J⟩ (Q7 ⟨Rm j⟩)) r d:=ix.iI bS (G4.block r bS.lt (fun e=>by cases e;omega));have b0:=cm.grown G4 (by omega);refine(yG _ j _ b0 (by decide) (by decide) (by unfold im;omega)).mono ?_;rintro e w6 ⟨rfl,q⟩;have fz:G (Q w4)<=G (Q w6):=by simpa using q.size
  have B6:=gj (gC q (gm B5.o) B5.o);have A6:=gj (gC q (gm A5.o) A5.o);have co:=cn.iI q;have b1:kg w6 r d:=ix.iI bX (q.block r bX.lt);have dk:=b0.new q;clear q0 q1 q2 f2;go_wp2_with fail;refine(kZ base c _ _ 7 _ co (by omega)).mono ?_;rintro e w7 ⟨rfl,bi,F⟩;have fB:=F.size;have B7:=gj (jS F B6.o (by omega));have A7:=gj (jS F A6.o (by omega));have bk:kg w7 r d:=ix.iI b1 (F.block r b1.lt (fun e=>by cases e;omega));have dl:=dk.grown F (by omega);have hzero:∀u:Q0,(zeroValue 3).run prog u=.ok (I Y 0) u:=fun u=>by kernel_rfl
  obtain⟨W1,st,hE,bl,ag,fR,b3⟩:=ix.entry bk (mt:=271) (e:=3) (z:=I Y 0) underlying271 hzero (T,j);have L0:=fun n=>ix.lookup (w:=w7.drewN n) (ix.iI bk rfl) (mt:=271) (e:=3) (z:=I Y 0) underlying271 (hzero _) (T,j);have L1:=fun n=>ix.lookup (w:=W1.drewN n) (ix.iI bl rfl) (mt:=271) (e:=3) (z:=I Y 0) underlying271 (hzero _) (T,j);rw[tK]at L1;obtain⟨cnt,U⟩:∃cnt:Int,cnt=if d.contains (T,j)then 1 else 0:=⟨_,rfl⟩
  have b4:(rV (T,j) (d.map fun k=>(k,(I Y 1)))).getD (I Y 0)=I Y cnt:=by rw[U];exact FI _ _
  obtain⟨W2,aE,bo,al,f0⟩:=b3 (I Y (cnt+1));have L2:=fun n=>ix.lookup (w:=W2.drewN n) (ix.iI bo rfl) (mt:=271) (e:=3) (z:=I Y 0) underlying271 (hzero _) (T,j);rw[tK]at L2;simp only[b4,bZ]at hE aE L0 L1 L2;simp only[kV,nd,goInt,HT.o]at hE aE L0 L1 L2;have b5:=gj bo;have dn:=gj bl;clear bl bo b3 b4 hzero;have f1:0<=cnt/\cnt<=1:=by rw[U];split<;>omega
  have bs:=gj U;clear U;have gc:Rn w7 ⟨G (Q w1),1,J⟩=N _:=gr 1 B7.o;have b2:Rn w7 ⟨G (Q w1),2,J⟩=N _:=gr 2 B7.o;have X1:=gj (jS ag B7.o (by omega));have X2:=gj (jS al X1.o (by omega));have ge:Rn W1 ⟨G (Q w1),1,J⟩=N _:=gr 1 X1.o;have gf:Rn W1 ⟨G (Q w1),2,J⟩=N _:=gr 2 X1.o;have gg:Rn W2 ⟨G (Q w1),1,J⟩=N _:=gr 1 X2.o;have gl:Rn W2 ⟨G (Q w1),2,J⟩=N _:=gr 2 X2.o;have bL:=gm X2.o;have b6:=L0 1;have b8:=L1 1;have b9:=L2 1;have ca:=hE 1;have bt:=aE 1;have a0:∀w:Q0,w.drewN 1=w.drew:=fun _=>rfl;rw[a0]at b6 b8 b9;rw[a0,a0]at ca bt;clear L0 L1 L2 hE aE a0;have cq:=gm X1.o;have cr:=gm B7.o;go_wp2;go_region;go_wp2_with fail;have bv:=(bi.grown ag bN bk.nt).grown al bN dn.o.nt;have f3:G (Q w7)=G (Q W2):=by omega
  rw[show(cnt+1==1)=!(d.contains (T,j)) by rw[bs.o];cases d.contains (T,j)<;>rfl,HT.o];refine(kZ base c _ _ 8 W2.drew (bv.iI ((gJ W2).drew)) (by simp;omega)).mono ?_;rintro e m ⟨rfl,cs,l⟩;have M:W2.grownBy m (N c):=⟨l.os,l.tape,l.output,l.size,l.block⟩;clear l;have f4:G (Q W2)<=G (Q m):=M.size;have B9:=gj (jS M X2.o (by omega));have A8:=gj (jS ag A7.o (by omega));have dp:=gj (jS al A8.o (by omega));have s:=gj (jS M dp.o (by omega));have cb:=ix.iI (w':=m) b5.o (M.block r b5.o.lt (fun e=>by cases e;omega));have f5:=((dl.grown ag (by omega)).grown al (by omega)).grown M (by omega);clear gc b2 ge gf gg gl b6 b8 b9 ca bt bi bv cr cq bL;have q0:Rn m ⟨G (Q w1),0,J⟩=N _:=gr 0 B9.o;have q1:Rn m ⟨G (Q w1),1,J⟩=N _:=gr 1 B9.o;have q2:Rn m ⟨G (Q w1),2,J⟩=N _:=gr 2 B9.o;have q3:Rn m ⟨G (Q w1),3,J⟩=N _:=gr 3 B9.o;have p0:Rn m ⟨G (Q w),0,J⟩=N _:=gr 0 s.o;have p1:Rn m ⟨G (Q w),1,J⟩=N _:=gr 1 s.o;have p2:Rn m ⟨G (Q w),2,J⟩=N _:=gr 2 s.o;have p3:Rn m ⟨G (Q w),3,J⟩=N _:=gr 3 s.o;have e0:=gD 0 s.o;have e1:=gD 1 s.o;have e2:=gD 2 s.o;have e3:=gD 3 s.o;have d0:=gm B9.o;have d1:=gm s.o;go_wp2;have hR:((cu.take 2).1.pS 2 T d R W).2=⟨2,T,j,[]⟩:=by rw[ba.o,HT.o,HK.o];rfl
  have GL:=jf (jf (jf (jg (gJ m) 0 (I Y 2) (c:=G (Q w))) 1 (I Y T)) 2 (Q7 ⟨Rm j⟩)) 3 (Q7 ⟨#[]⟩);rw[HT.o]at GL;refine ai (v:=ud ⟨2,T,j,[]⟩) (by simp[results,results187,go_sem,ud,HT.o,p0,p1,p2,p3]) rfl ⟨by rw[hR],?_,fun dT=>?_,?_⟩
  .have:=cs.grown GL ct (fun k n=>by rw[s.o];simp);exact this.eq (by rw[ba.o,HT.o,HK.o];rfl)
  .have V:=zx dT;rw[HK.o]at V;rw[<-ba.o]at V;have av:cnt=0:=by rw[bs.o,V];rfl
   have cc:=ix.iI cb (GL.block r cb.lt (fun e=>by cases e;omega));rw[av]at cc;rw[hR];have e1:=DR (T,j) d V;unfold kg;rw[<-e1];exact cc
  .have x1:=((gR.refl (fun i=>i=c\/i=r) w).alloc _).grow X (.inl (.inl rfl));have x2:=(x1.EU (((gJ w1).alloc gH _).drew)).grow C (.inl (.inl rfl));have x3:=(((x2.grow D (.inl (.inl rfl))).grow E (.inl (.inl rfl))).grow G4 (.inr (by omega))).EU q;have x4:=(((x3.grow F (.inl (.inl rfl))).grow ag (.inl (.inr rfl))).grow al (.inl (.inr rfl))).grow M (.inl (.inl rfl));exact x4.grow GL (.inr gH)
def Cu.op(cu:Cu)(b:List K):Cu×kv:=
 match (cu.take 2).2 with
 | [x,y]=>
  let C:=((cu.take 2).1.mG (x.toNat==1 || x.toNat==2) 6).mG (decide (y.toNat<3)) 6
  match C.f with
  | some _=>(C,⟨x.toNat,y.toNat,[],[]⟩)
  | none=>C.pS x.toNat y.toNat b (gL y.toNat) (iu y.toNat)
 | _=>(cu,⟨0,0,[],[]⟩)
theorem PO(base c r:Nat)(cu:Cu)(b:List K)(w:Q0)(h:jd w base c cu)(hm:kg w r b)(s:gZ w)(d:2<=base)(o:base<=G (Q w))(j:c<r):
  Calls prog 187 #[Q5 (N ⟨c,0,J⟩),.map (N r)] w fun e w'=>e=.returned (ud (cu.op b).2)/\jd w' base c (cu.op b).1/\((cu.op b).1.f=J->kg w' r (b++[((cu.op b).2.table,(cu.op b).2.key)]))/\gR (fun i=>i=c\/i=r) w w':=by
 obtain⟨x,y,l⟩:=tY (Cu.take_length cu 2);unfold Cu.op;rw[l];simp only;cases C:((((cu.take 2).1.mG (x.toNat==1 || x.toNat==2) 6).mG (decide (y.toNat<3)) 6)).f with
 | some z=>
  simp only;refine(PQ base c r cu x y _ _ w h o l ?_ ?_ (by rw[C];simp)).mono fun e w' ⟨h1,D,q⟩=>⟨h1,D,fun k=>absurd (C.symm.trans k) (by simp),⟨q.os,q.tape,q.output,q.size,fun k hk M=>q.block k hk (fun e=>M (.inl (by cases e;rfl)))⟩⟩
  .by_cases h1:x.toNat<1
   .exact .inl ⟨h1,by rw[fv,ar,ar];omega⟩
   .by_cases D:x.toNat<2
    .exact .inr (.inl ⟨by omega,D,by rw[dK,aT,aT];omega⟩)
    .by_cases q:x.toNat<3
     .exact .inr (.inr (.inl ⟨by omega,q,by rw[dK,aT,aT];omega⟩))
     .exact .inr (.inr (.inr ⟨by omega,by rw[fv,ar,ar];omega⟩))
  .by_cases h1:y.toNat<3
   .exact .inl ⟨h1,bh h1⟩
   .exact .inr ⟨by omega,aF h1⟩
 | none=>
  simp only;have E:=Cu.wU C;have m:=Cu.wU E.1;rw[m.2,E.2,Cu.rA,Cu.rA];have u:y.toNat<3:=dh E.2;have B:x.toNat=1\/x.toNat=2:=by simpa using m.2
  have F:y.toNat=0\/y.toNat=1\/y.toNat=2:=by omega
  rcases B with B|B<;>rcases F with u|u|u<;>rw[B,u]
  .exact PM 0 6 4 (.inl ⟨rfl,rfl,rfl⟩) base c r cu x y b w h hm s d o j l (by omega) (by omega) m.1
  .exact PM 1 5 4 (.inr (.inl ⟨rfl,rfl,rfl⟩)) base c r cu x y b w h hm s d o j l (by omega) (by omega) m.1
  .exact PM 2 2 2 (.inr (.inr ⟨rfl,rfl,rfl⟩)) base c r cu x y b w h hm s d o j l (by omega) (by omega) m.1
  .exact PN 0 6 4 (.inl ⟨rfl,rfl,rfl⟩) base c r cu x y b w h hm s d o j l (by omega) (by omega) m.1
  .exact PN 1 5 4 (.inr (.inl ⟨rfl,rfl,rfl⟩)) base c r cu x y b w h hm s d o j l (by omega) (by omega) m.1
  .exact PN 2 2 2 (.inr (.inr ⟨rfl,rfl,rfl⟩)) base c r cu x y b w h hm s d o j l (by omega) (by omega) m.1
def kX:Nat->Cu->List K->List kv->Cu×List kv
 | 0,c,_,os=>(c,os)
 | n+1,c,b,os=>
  match c.f with
  | some _=>(c,os)
  | none=>kX n (c.op b).1 (b++[((c.op b).2.table,(c.op b).2.key)]) (os++[(c.op b).2])
def tR(l:gw):(Nat×List kv)⊕(Nat×Nat):=
 let a:=Cu.take ⟨l,0,0,J⟩ 8
 let b:=(a.1.mG (ij (j6 a.2)) 4).take 1
 let n:=(b.2.headD 0).toNat
 let L:=kX n (b.1.mG (decide (1<=n)&&decide (n<=8)) 5) [] []
 match L.1.mT.f with
 | some f=>.inr f
 | none=>.inl (j6 a.2,L.2)
def yg(o:kv):Bool:=if o.kind=2 then o.val==[]else jb o.table o.val
def iZ(o:kv)(ahead:List K):Nat:=
 if o.kind<1\/2<o.kind\/o.table<0\/2<o.table then 6
 else if js o.table o.key=false then 7
 else if ahead.contains (o.table,o.key)=true then 8
 else if yg o=false then 9
 else 0
def jA:Nat->List K->List kv->Option (Nat×Nat)
 | _,_,[]=>J
 | i,b,o::os=>if iZ o b=0 then jA (i+1) (b++[(o.table,o.key)]) os else N (iZ o b,i)
def lF(v:Nat)(os:List kv):Option (Nat×Nat):=
 if ij v=false then N (4,0)
 else if(O os)<1\/8<O os then N (5,0)
 else jA 0 [] os
def lI(o:kv):gw:=UInt8.ofNat o.kind.toNat::UInt8.ofNat o.table.toNat::(o.key++o.val)
def tS(v:Nat)(os:List kv):gw:=nC v++UInt8.ofNat (O os)::os.flatMap lI
def jK(s:gw)(at':Nat)(b:List K):(kv×Nat)⊕(Nat×Nat):=
 match s.drop at' with
 | x::y::r=>
  if x.toNat<1\/2<x.toNat\/2<y.toNat then .inr (6,at')
  else if(O r)<gL y.toNat then .inr (1,at'+2)
  else if js y.toNat (r.take (gL y.toNat))=false then .inr (7,at'+2)
  else if b.contains ((y.toNat:Int),r.take (gL y.toNat))=true then .inr (8,at'+2)
  else if x.toNat=2 then .inl (⟨2,y.toNat,r.take (gL y.toNat),[]⟩,at'+2+gL y.toNat)
  else if(O r)<gL y.toNat+iu y.toNat then .inr (1,at'+2+gL y.toNat)
  else if jb y.toNat ((r.drop (gL y.toNat)).take (iu y.toNat))=false then .inr (9,at'+2+gL y.toNat)
  else .inl (⟨1,y.toNat,r.take (gL y.toNat),(r.drop (gL y.toNat)).take (iu y.toNat)⟩,at'+2+gL y.toNat+iu y.toNat)
 | _=>.inr (1,at')
def l9(s:gw):Nat->Nat->List K->List kv->(Nat×List kv)⊕(Nat×Nat)
 | 0,at',_,os=>.inl (at',os)
 | n+1,at',b,os=>
  match jK s at' b with
  | .inr f=>.inr f
  | .inl (o,to)=>l9 s n to (b++[(o.table,o.key)]) (os++[o])
def lO(s:gw):(Nat×List kv)⊕(Nat×Nat):=
 if(O s)<8 then .inr (1,0)
 else if ij (j6 (s.take 8))=false then .inr (4,0)
 else if(O s)<9 then .inr (1,8)
 else if((s.drop 8).headD 0).toNat<1\/8<((s.drop 8).headD 0).toNat then .inr (5,8)
 else match l9 s ((s.drop 8).headD 0).toNat 9 [] [] with
  | .inr f=>.inr f
  | .inl (at',os)=>if at'<O s then .inr (2,at')else .inl (j6 (s.take 8),os)
theorem Cu.jV(l:gw)(a to n:Nat):(⟨l,a,to,J⟩:Cu).take n=if(O l)<to+n then(⟨l,a,to,N (1,to)⟩,List.replicate n 0)else(⟨l,to,to+n,J⟩,(l.drop to).take n):=rfl
theorem Cu.nc(l:gw)(a to n:Nat)(f:Nat×Nat):(⟨l,a,to,N f⟩:Cu).take n=(⟨l,a,to,N f⟩,List.replicate n 0):=rfl
theorem Cu.lV(l:gw)(a to k:Nat)(ok:Bool):(⟨l,a,to,J⟩:Cu).mG ok k=if ok=true then⟨l,a,to,J⟩else⟨l,a,to,N (k,a)⟩:=rfl
theorem Cu.lp(l:gw)(a to k:Nat)(ok:Bool)(f:Nat×Nat):(⟨l,a,to,N f⟩:Cu).mG ok k=⟨l,a,to,N f⟩:=rfl
theorem QS{l:gw}{x y:UInt8}{r:gw}(h:l.drop to=x::y::r):l.drop (to+2)=r/\O l=to+2+O r:=by
 have h1:(l.drop to).drop 2=r:=by rw[h];rfl
 rw[db]at h1;have b:=bm List.length h;rw[bu,ao,ao]at b;exact⟨h1,by omega⟩
theorem Cu.Lx(l:gw)(a to:Nat)(m:List K):
  match jK l to m with
  | .inr f=>((⟨l,a,to,none⟩:Cu).op m).1.f=N f
  | .inl (o,s)=>∃a',(⟨l,a,to,none⟩:Cu).op m=(⟨l,a',s,none⟩,o)/\s<=O l:=by
 unfold jK
 match h:l.drop to with
 | []=>
  have:O l<to+2:=by have:=bm List.length h;simp at this;omega
  simp[Cu.op,Cu.jV,this,List.replicate,Cu.lp]
 | [x]=>
  have:O l<to+2:=by have:=bm List.length h;simp at this;omega
  simp[Cu.op,Cu.jV,this,List.replicate,Cu.lp]
 | x::y::r=>
  obtain⟨C,hl⟩:=QS h;have M:¬(O l)<to+2:=by omega
  have b:((x.toNat==1 || x.toNat==2)=true/\y.toNat<3)↔¬(x.toNat<1\/2<x.toNat\/2<y.toNat):=by simp only[dK,aT];omega
  simp only[Cu.op,Cu.jV,M,dA,h,aN,bp];by_cases q:x.toNat<1\/2<x.toNat\/2<y.toNat
  .rw[aw q];have:=mt b.1 (fun e=>e q);by_cases h1:(x.toNat==1 || x.toNat==2)=true
   .have B:¬y.toNat<3:=fun e=>this ⟨h1,e⟩;simp[Cu.lV,h1,B]
   .simp[Cu.lV,h1,Cu.lp]
  .rw[af q];obtain⟨h1,B⟩:=b.2 q;simp only[Cu.lV,h1,B,decide_true,dX,Cu.pS,Cu.jV,hl];by_cases D:O r<gL y.toNat
   .have d:to+2+O r<to+2+gL y.toNat:=by omega
    simp only[D,d,dX,Cu.lp,Cu.nc];split<;>rfl
   .have d:¬to+2+O r<to+2+gL y.toNat:=by omega
    simp only[D,d,dA,C,Cu.lV];cases hk:js (y.toNat:Int) (r.take (gL y.toNat)) with
    | false=>simp only[dX,ew,dA,Cu.lp,Cu.nc];split<;>rfl
    | true=>
     simp only[ey,dA,dX,Cu.lV];cases hc:m.contains ((y.toNat:Int),r.take (gL y.toNat)) with
     | true=>simp only[dX,fK,ew,dA,Cu.lp,Cu.nc];split<;>rfl
     | false=>
      simp only[Bool.not_false,ew,dA,dX];by_cases i:x.toNat=2
      .have:¬(x.toNat:Int)=1:=by omega
       rw[aw i,af this];exact⟨_,by rw[i];rfl,by omega⟩
      .have u:(x.toNat:Int)=1:=by omega
       rw[af i,aw u];simp only[Cu.jV,hl];by_cases E:O r<gL y.toNat+iu y.toNat
       .have j:to+2+O r<to+2+gL y.toNat+iu y.toNat:=by omega
        simp only[E,j,dX,Cu.lp]
       .have j:¬to+2+O r<to+2+gL y.toNat+iu y.toNat:=by omega
        have F:l.drop (to+2+gL y.toNat)=r.drop (gL y.toNat):=by rw[<-C,db]
        simp only[E,j,dA,F,Cu.lV];cases R:jb (y.toNat:Int) ((r.drop (gL y.toNat)).take (iu y.toNat)) with
        | false=>simp only[dX,ew,dA]
        | true=>simp only[ey,dA,dX];exact⟨_,by rw[u],by omega⟩
theorem xx(n:Nat)(c:Cu)(b:List K)(os:List kv)(f:Nat×Nat)(h:c.f=N f):(kX n c b os).1=c:=by
 cases n with
 | zero=>rfl
 | succ n=>unfold kX;rw[h]
theorem uz(l:gw):∀(n a to:Nat) (b:List K) (os:List kv),to<=O l->
  match l9 l n to b os with
  | .inr f=>(kX n ⟨l,a,to,none⟩ b os).1.f=N f
  | .inl (d,j)=>∃a',kX n ⟨l,a,to,none⟩ b os=(⟨l,a',d,none⟩,j)/\d<=O l
 | 0,a,to,b,os,h=>⟨a,rfl,h⟩
 | n+1,a,to,b,os,h=>by
  have hc:=Cu.Lx l a to b;unfold l9;cases i:jK l to b with
  | inr f=>rw[i]at hc;simp only at hc⊢;unfold kX;simp only;rw[xx n _ _ _ f hc];exact hc
  | inl x=>obtain⟨o,d⟩:=x;rw[i]at hc;obtain⟨a',he,m⟩:=hc;simp only;have ih:=uz l n a' d (b++[(o.table,o.key)]) (os++[o]) m;unfold kX;simp only[he];exact ih
theorem qD(l:gw):tR l=lO l:=by
 unfold tR lO;by_cases i:O l<8
 .have j:O l<0+8:=by omega
  simp[Cu.jV,i,Cu.lp,Cu.nc,List.replicate,kX,Cu.mT]
 .have j:¬(O l)<0+8:=by omega
  simp only[Cu.jV,i,dA,bC,bY,Cu.lV];cases u:ij (j6 (l.take 8)) with
  | false=>simp[Cu.nc,Cu.lp,List.replicate,kX,Cu.mT]
  | true=>
   simp only[dX,ey,dA,Cu.jV];by_cases d:O l<9
   .have m:O l<8+1:=d;simp[d,Cu.lp,List.replicate,kX,Cu.mT]
   .have m:¬(O l)<8+1:=d;have o:((l.drop 8).take 1).headD 0=(l.drop 8).headD 0:=by cases l.drop 8<;>rfl
    simp only[d,dA,o,Cu.lV];generalize ((l.drop 8).headD 0).toNat=n;by_cases q:n<1\/8<n
    .have:¬((decide (1<=n)&&decide (n<=8))=true):=by simp;omega
     rw[af this,aw q];cases n with
     | zero=>rfl
     | succ n=>rfl
    .have:(decide (1<=n)&&decide (n<=8))=true:=by simp;omega
     rw[aw this,af q];have b:=uz l n 8 9 [] [] (by omega);cases hc:l9 l n 9 [] [] with
     | inr f=>rw[hc]at b;simp only at b⊢;simp[Cu.mT,b]
     | inl x=>obtain⟨to,os⟩:=x;rw[hc]at b;obtain⟨a',he,s⟩:=b;simp only[he,Cu.mT];by_cases r:to<O l<;>simp[r]
theorem mj(h:js t k=true):O k=gL t:=
 Decidable.byContradiction fun b=>by rw[wO b]at h;cases h
theorem lD(b:0<=t)(d:t<3)(h:jb t k=true):O k=iu t:=
 Decidable.byContradiction fun i=>by rw[tW b d i]at h;cases h
theorem ue{o:kv}(h:iZ o b=0):
  (o.kind=1\/o.kind=2)/\0<=o.table/\o.table<3/\js o.table o.key=true/\b.contains (o.table,o.key)=false/\yg o=true:=by
 unfold iZ at h;split at h
 .cases h
 .split at h
  .cases h
  .split at h
   .cases h
   .split at h
    .cases h
    .rename_i h1 d i j;exact⟨by omega,by omega,by omega,(by simpa using d),Bool.not_eq_true _▸i,(by simpa using j)⟩
theorem rL{o:kv}(h1:o.kind=1\/o.kind=2)(l:0<=o.table)(m:o.table<3)(d:js o.table o.key=true)(i:b.contains (o.table,o.key)=false)(j:yg o=true):iZ o b=0:=by unfold iZ;rw[af (by omega),d,af (by decide),i,af (by decide),j,af (by decide)]
theorem uL{l:List K}{o:kv}(h:jK s at' l=.inl (o,to)):
  iZ o l=0/\s.drop at'=lI o++s.drop to/\to=at'+(lI o).length:=by
 unfold jK at h;split at h
 .rename_i x y r m;obtain⟨d,hl⟩:=QS m;split at h
  .cases h
  .rename_i F;split at h
   .cases h
   .rename_i D;split at h
    .cases h
    .rename_i hk;split at h
     .cases h
     .rename_i hc;have i:js (y.toNat:Int) (r.take (gL y.toNat))=true:=by simpa using hk
      have j:l.contains ((y.toNat:Int),r.take (gL y.toNat))=false:=by simpa using hc
      have b:(r.take (gL y.toNat)).length=gL y.toNat:=by rw[ax];omega
      split at h
      .rename_i u;cases h;refine⟨rL (.inr rfl) (by simp only;omega) (by simp only;omega) i j rfl,?_,by simp only[lI,ao,ab,b,aI];omega⟩;rw[m,<-db,d];have q:UInt8.ofNat (2:Int).toNat=x:=by rw[<-dO];simp[u]
       simp only[lI,q,UInt8.ofNat_toNat,cj,cX,aV,cw]
      .rename_i u;split at h
       .cases h
       .rename_i E;split at h
        .cases h
        .rename_i C;cases h;have B:jb (y.toNat:Int) ((r.drop (gL y.toNat)).take (iu y.toNat))=true:=by simpa using C
         have h1:x.toNat=1:=by omega
         refine⟨rL (.inl rfl) (by simp only;omega) (by simp only;omega) i j B,?_,by simp only[lI,ao,ab,b,ax,bu];omega⟩;rw[m,<-db,<-db,d];have q:UInt8.ofNat (1:Int).toNat=x:=by rw[<-dO];simp[h1]
         simp only[lI,q,UInt8.ofNat_toNat,cj,aV,bJ,cw]
 .cases h
theorem uY{o:kv}: (lI o).length=2+O o.key+O o.val:=by simp[lI];omega
theorem Uv{t:gw}{l:List K}{o:kv}(h:iZ o l=0)(m:s.drop at'=lI o++t):
  jK s at' l=.inl (o,at'+(lI o).length):=by
 obtain⟨h1,q,r,j,u,d⟩:=ue h;obtain⟨x,T,k,v⟩:=o;simp only at h1 q r j u d;have b:=mj j;obtain⟨y,B⟩:∃y:UInt8,(y.toNat:Int)=T:=⟨UInt8.ofNat T.toNat,by simp;omega⟩;have C:UInt8.ofNat T.toNat=y:=by rw[<-B];simp
 rw[uY];unfold jK;simp only[lI,aV,bJ]at m;rw[m,C];simp only;have D:(k++(v++t)).take (gL T)=k:=by rw[<-b,eE]
 have E:(k++(v++t)).drop (gL T)=v++t:=by rw[<-b,fw]
 rw[B,D,E];have M:(UInt8.ofNat x.toNat).toNat=x.toNat:=by simp;omega
 rw[M,af (by omega),af (by simp[b]),j,af (by decide),u,af (by decide)];rcases h1 with rfl|rfl
 .rw[af (by decide)];have d:jb T v=true:=d;have i:=lD q r d;have F:(v++t).take (iu T)=v:=by rw[<-i,eE]
  rw[F,af (by simp[b,i]),d,af (by decide)];rw[b,i];congr 2;omega
 .have d:v=[]:=by simpa [yg]using d
  subst d;rw[aw (by rfl)];simp[b];omega
theorem xu  : ∀{n at':Nat} {d:List K} {os:List kv} {to:Nat} {b:List kv},l9 s n at' d os=.inl (to,b)->
  ∃us,b=os++us/\O us=n/\(∀i,jA i d us=J)/\s.drop at'=us.flatMap lI++s.drop to/\to=at'+(us.flatMap lI).length
 | 0,at',d,os,to,b,h=>by cases h;exact⟨[],by simp,rfl,fun _=>rfl,rfl,rfl⟩
 | n+1,at',d,os,to,b,h=>by
  unfold l9 at h;cases hc:jK s at' d with
  | inr f=>rw[hc]at h;cases h
  | inl x=>
   obtain⟨o,m⟩:=x;rw[hc]at h;simp only at h;obtain⟨h1,j,l⟩:=uL hc;obtain⟨us,q,r,u,y,B⟩:=xu h;refine⟨o::us,by rw[q];simp,by simp[r],fun i=>?_,?_,?_⟩
   .unfold jA;rw[aw h1];exact u (i+1)
   .rw[j,y,dF,bJ]
   .rw[B,l,dF,ab];omega
theorem Ub  : ∀{us:List kv} {at' i:Nat} {b:List K} {os:List kv} {t:gw},jA i b us=J->s.drop at'=us.flatMap lI++t->
  l9 s (O us) at' b os=.inl (at'+(us.flatMap lI).length,os++us)
 | [],at',i,b,os,t,h,d=>by simp[l9]
 | o::us,at',i,b,os,t,h,d=>by
  unfold jA at h;split at h
  .rename_i j;rw[dF,bJ]at d;have hc:=Uv j d;have l:s.drop (at'+(lI o).length)=us.flatMap lI++t:=by rw[<-db,d,fw]
   have ih:=Ub (os:=os++[o]) h l;rw[ao];unfold l9;rw[hc];simp only[ih,dF,ab,bJ,aV,aQ];congr 2;omega
  .cases h
theorem OJ(h:O k=8):∃a b c d e f g i,k=[a,b,c,d,e,f,g,i]:=by
 match k,h with
 | [a,b,c,d,e,f,g,i],_=>exact⟨a,b,c,d,e,f,g,i,rfl⟩
theorem GH(v:Nat)(h:v<18446744073709551616):j6 (nC v)=v:=by simp[j6,nC,List.range,List.range.loop];omega
theorem FK(l:gw)(h:O l=8):nC (j6 l)=l:=by obtain⟨a,b,c,d,e,f,g,i,rfl⟩:=OJ h;have ha:=a.toNat_lt;have j:=b.toNat_lt;have hc:=c.toNat_lt;have m:=d.toNat_lt;have he:=e.toNat_lt;have o:=f.toNat_lt;have q:=g.toNat_lt;have r:=i.toNat_lt;simp only[j6,nC,List.range,List.range.loop,bG,dM,eJ,List.foldl_nil,ep,and_true,<-dO,fe];refine⟨?_,?_,?_,?_,?_,?_,?_,?_⟩<;>simp<;>omega
theorem nK(h:ij v=true):v<18446744073709551616:=by unfold ij at h;simp at h;omega
theorem UF(v:Nat)(os:List kv)(h:lF v os=J):lO (tS v os)=.inl (v,os):=by
 unfold lF at h;split at h
 .cases h
 .rename_i j;split at h
  .cases h
  .rename_i o;have b:ij v=true:=by simpa using j
   have hl:(tS v os).length=9+(os.flatMap lI).length:=by unfold tS;rw[ab,iB,ao];omega
   have l:(tS v os).take 8=nC v:=by unfold tS;rw[<-iB v,eE]
   have d:(tS v os).drop 8=UInt8.ofNat (O os)::os.flatMap lI:=by unfold tS;rw[<-iB v,fw]
   have i:(tS v os).drop 9=os.flatMap lI:=by rw[show 9=8+1 from rfl,<-db,d];rfl
   have m:(UInt8.ofNat (O os)).toNat=O os:=by simp;omega
   unfold lO;rw[af (by omega),l,GH v (nK b),af (by simp[b]),af (by omega),d];simp only[fh,m];rw[af (by omega),Ub (t:=[]) h (by rw[i,cX])];simp only[aQ];rw[af (by omega)]
theorem xz(s:gw)(v:Nat)(os:List kv)(h:lO s=.inl (v,os)):lF v os=J/\tS v os=s:=by
 unfold lO at h;split at h
 .cases h
 .split at h
  .cases h
  .split at h
   .cases h
   .split at h
    .cases h
    .rename_i E u F M;split at h
     .cases h
     .rename_i at' C hc;split at h
      .cases h
      .rename_i D;cases h;obtain⟨us,i,j,y,l,R⟩:=xu hc;rw[aQ]at i;rw[i];have m:(s.take 8).length=8:=by rw[ax];omega
       have b:s.drop at'=[]:=fZ (by omega);refine⟨?_,?_⟩
       .unfold lF;rw[af u,af (by omega)];exact y 0
       .unfold tS;rw[FK _ m];obtain⟨x,r,d⟩:∃x r,s.drop 8=x::r:=by
         cases B:s.drop 8 with
         | nil=>have:=bm List.length B;simp at this;omega
         | cons x r=>exact⟨x,r,rfl⟩
        have o:s.drop 9=r:=by rw[show 9=8+1 from rfl,<-db,d];rfl
        rw[o,b,cX]at l;rw[d]at j;rw[<-l];have q:UInt8.ofNat (O us)=x:=by rw[j];simp
        rw[q,<-d,cw]
theorem AK(h:jK s at' b=.inr f)(i:at'<=O s):1<=f.1/\f.1<=14/\f.2<=O s:=by
 unfold jK at h;split at h
 .rename_i x y r d;obtain⟨j,hl⟩:=QS d
  repeat' (split at h)
  all_goals first|(cases h;simp only;omega)|cases h
 .cases h;simp only;omega
theorem yZ  : ∀{n at':Nat} {b:List K} {os:List kv} {f:Nat×Nat},l9 s n at' b os=.inr f->at'<=O s->1<=f.1/\f.1<=14/\f.2<=O s
 | 0,at',b,os,f,h,d=>by cases h
 | n+1,at',b,os,f,h,d=>by
  unfold l9 at h;cases hc:jK s at' b with
  | inr g=>rw[hc]at h;cases h;exact AK hc d
  | inl x=>obtain⟨o,m⟩:=x;rw[hc]at h;obtain⟨h1,i,j⟩:=uL hc;refine yZ h ?_;have:=bm List.length i;rw[ab,bu,bu]at this;have l:=@uY o;omega
theorem BJ(h:lO s=.inr f):1<=f.1/\f.1<=14/\f.2<=O s:=by
 unfold lO at h;split at h
 .cases h;simp
 .split at h
  .cases h;simp
  .split at h
   .cases h;simp only;omega
   .split at h
    .cases h;simp only;omega
    .split at h
     .rename_i b hc;cases h;exact yZ hc (by omega)
     .split at h
      .cases h;simp only;omega
      .cases h
theorem ET(o:kv)(b:List K)(h:iZ o b≠0):1<=iZ o b/\iZ o b<=14:=by
 refine⟨by omega,?_⟩;unfold iZ
 repeat' split
 all_goals omega
theorem vz:∀(os:List kv) (i:Nat) (b:List K) {f:Nat×Nat},jA i b os=N f->1<=f.1/\f.1<=14/\i<=f.2/\f.2<i+O os
 | [],i,b,f,h=>by cases h
 | o::os,i,b,f,h=>by
  unfold jA at h;split at h
  .have:=vz os (i+1) _ h;rw[ao];omega
  .rename_i d;cases h;have:=ET o b d;simp only[ao];omega
theorem vy{os:List kv}(h:lF v os=N f):1<=f.1/\f.1<=14/\f.2<=8:=by
 unfold lF at h;split at h
 .cases h;simp
 .split at h
  .cases h;simp
  .have:=vz os 0 [] h;omega
open Go.ChangeMaps
abbrev Z:=K×Q4×Nat
def sP(z:Z):MapEntry:=⟨kV z.1,z.2.1,z.2.2⟩
def Oa(z:Z):K×Q4:=(z.1,z.2.1)
theorem Hs:∀(es:List MapEntry) (l:List (K×Q4)),es.map (fun e=>(e.key,e.val))=l.map (fun x=>(kV x.1,x.2))->∃zs:List Z,es=zs.map sP/\l=zs.map Oa
 | [],[],_=>⟨[],rfl,rfl⟩
 | [],_::_,h=>by simp at h
 | _::_,[],h=>by simp at h
 | e::es,x::l,h=>by simp only[bG,ep,Prod.mk.injEq]at h;obtain⟨zs,rfl,rfl⟩:=Hs es l h.2;refine⟨(x.1,x.2,e.born)::zs,?_,rfl⟩;rw[bG];congr 1;unfold sP;rw[<-h.1.1,<-h.1.2]
def iJ(w:Q0)(r q:Nat)(l pre:List (K×Q4)):Prop:=
 ∃(zs d:List Z) (b since c0:Nat),l=zs.map Oa/\pre=d.map Oa/\w.heap[r]?=N (.map (zs.map sP).toArray b)/\w.heap[q]?=N (.mapIter (N r) since (d.map (·.2.2)).toArray c0)/\
  (∀z∈zs,z.2.2<since)/\since<=c0/\since<=b/\(zs.map (·.2.2)).Nodup/\(l.map (·.1)).Nodup/\(∀y∈d,y∈zs)/\(d.map (·.2.2)).Nodup
theorem iJ.map{w:Q0}{r q:Nat}{l pre:List (K×Q4)}(h:iJ w r q l pre):ix w r l:=by
 obtain⟨zs,u,d,since,c0,rfl,rfl,i,hq,j,y,hc,m,hk,B,s⟩:=h;refine⟨_,d,i,?_,?_,?_,hk⟩
 .simp[sP,Oa]
 .intro e he;simp at he;obtain⟨a,b,x,n,o,rfl⟩:=he;have:=j _ o;simp[sP];simp at this;omega
 .simpa [sP,Function.comp_def]using m
theorem iJ.frame{w:Q0}{r q:Nat}{l pre:List (K×Q4)}(h:iJ w r q l pre)(i:w'.heap[r]?=w.heap[r]?)(hq:w'.heap[q]?=w.heap[q]?):iJ w' r q l pre:=by obtain⟨zs,j,b,since,c0,h1,m,o,d,r⟩:=h;exact⟨zs,j,b,since,c0,h1,m,i.trans o,hq.trans d,r⟩
theorem iJ.lt{w:Q0}{r q:Nat}{l pre:List (K×Q4)}(h:iJ w r q l pre):r<G (Q w)/\q<G (Q w):=by obtain⟨zs,j,d,since,c0,h1,m,i,b,_⟩:=h;exact⟨gm i,gm b⟩
theorem iJ.sub{w:Q0}{r q:Nat}{l pre:List (K×Q4)}(h:iJ w r q l pre):(∀x∈pre,x∈l)/\(l.map (·.1)).Nodup/\(pre.map (·.1)).Nodup:=by
 obtain⟨zs,u,E,since,c0,rfl,rfl,d,hq,C,F,hc,D,hk,j,m⟩:=h;refine⟨fun x B=>?_,hk,?_⟩
 .obtain⟨y,h1,rfl⟩:=aA.1 B;exact aA.2 ⟨y,j y h1,rfl⟩
 .have key:∀a∈zs,∀b∈zs,a.1=b.1->a=b:=by
   clear C j m d hq D;intro a ha b d e
   induction zs with
   | nil=>cases ha
   | cons z zs ih=>
    simp only[bG,dN]at hk;rcases aZ.1 ha with rfl|s
    .rcases aZ.1 d with rfl|o
     .rfl
     .refine absurd (aA.2 ⟨Oa b,aA.2 ⟨b,o,rfl⟩,?_⟩) hk.1;exact e.symm
    .rcases aZ.1 d with rfl|o
     .refine absurd (aA.2 ⟨Oa a,aA.2 ⟨a,s,rfl⟩,?_⟩) hk.1;exact e
     .exact ih hk.2 s o
  have i:u.Nodup:=by have:=ea.1 m;exact this.imp (fun h e=>h (by rw[e]))
  rw[gh];refine ea.2 ?_;clear m C hk d hq D
  induction u with
  | nil=>exact List.Pairwise.nil
  | cons y u ih=>rw[dN]at i;refine List.Pairwise.cons (fun b d e=>?_) (ih (fun x B=>j x (aR _ B)) i.2);have:=key y (j y (by simp)) b (j b (aR _ d)) e;exact i.1 (this▸d)
theorem M9(i d:List Nat)(j:i.Nodup)(o:d.Nodup)(q:∀y∈d,y∈i):(i.filter fun b=>!d.contains b).length+O d=O i:=by
 have r:(d++i.filter fun b=>!d.contains b).Perm i:=by
  refine(dD ?_ j).2 fun a=>?_
  .refine cE.2 ⟨o,j.sublist List.filter_sublist,fun a ha b l e=>?_⟩;subst e;simp at l;exact l.2 ha
  .simp;constructor
   .rintro(h|h)
    .exact q a h
    .exact h.1
   .intro h;by_cases m:a∈d
    .exact .inl m
    .exact .inr ⟨h,m⟩
 have:=r.length_eq;rw[ab]at this;omega
theorem DD(zs b:List Z):(leftOf (zs.map sP).toArray (b.map (·.2.2)).toArray).toList=(zs.filter fun z=>!(b.map (·.2.2)).contains z.2.2).map sP:=by unfold leftOf;rw[Array.toList_filter,List.filter_map];congr 1;refine List.filter_congr fun z _=>?_;simp only[Function.comp,sP,List.contains_toArray]
theorem Gd(zs:List Z)(p:Nat->Bool):((zs.filter fun z=>p z.2.2).map (·.2.2))=(zs.map (·.2.2)).filter p:=by rw[List.filter_map];rfl
theorem rs(w:Q0)(q:Nat)(o:Obj){k:Nat}(h:k≠q):(setBlock w q o).heap[k]?=w.heap[k]?:=by simp[setBlock,dW h]
theorem iJ.left{w:Q0}{r q:Nat}{l pre:List (K×Q4)}(h:iJ w r q l pre):w.rangeLeft r q+O pre=O l:=by
 obtain⟨zs,d,m,since,c0,rfl,rfl,i,hq,x,B,hc,o,hk,s,j⟩:=h;unfold World.rangeLeft;rw[i,hq];simp only;have e:=DD zs d;have u:(leftOf (zs.map sP).toArray (d.map (·.2.2)).toArray).size=((zs.map (·.2.2)).filter fun b=>!(d.map (·.2.2)).contains b).length:=by rw[<-ei,e,aB,<-Gd,aB]
 rw[u];have:=M9 (zs.map (·.2.2)) (d.map (·.2.2)) o j (fun b i=>by obtain⟨y,h1,rfl⟩:=aA.1 i;exact aA.2 ⟨y,s y h1,rfl⟩);simp only[aB]at this⊢;exact this
section
open Classical in
theorem iJ.perm{w:Q0}{r q:Nat}{l pre:List (K×Q4)}(h:iJ w r q l pre)(hl:w.rangeLeft r q=0):pre.Perm l:=by
 have i:=h.left;rw[hl,bY]at i;obtain⟨h1,s,u⟩:=h.sub;have n1:pre.Nodup:=(ea.1 u).imp (fun h e=>h (by rw[e]));have n2:l.Nodup:=(ea.1 s).imp (fun h e=>h (by rw[e]));refine(dD n1 n2).2 fun a=>⟨h1 a,fun ha=>?_⟩;refine eI fun j=>?_;have m:(a::pre).Nodup:=dN.2 ⟨j,n1⟩;have B:((a::pre)++l.filter fun b=>!(a::pre).contains b).Perm l:=by
  refine(dD ?_ n2).2 fun b=>?_
  .refine cE.2 ⟨m,n2.sublist List.filter_sublist,fun x C y D e=>?_⟩;subst e;have d:=(cF.1 D).2;rw[fm.2 C]at d;cases d
  .rw[bQ,cF];constructor
   .rintro(h|h)
    .rcases aZ.1 h with rfl|h
     .exact ha
     .exact h1 b h
    .exact h.1
   .intro h;by_cases o:b∈a::pre
    .exact .inl o
    .exact .inr ⟨h,by
      cases hc:(a::pre).contains b with
      | true=>exact absurd (fm.1 hc) o
      | false=>rfl⟩
 have:=B.length_eq;simp only[ab,ao]at this;omega
end
section
variable {w:Q0} {r q:Nat} {l pre:List (K×Q4)} {mt e:Ri}
theorem ix.range(h:ix w r l)(m:prog.underlying mt=N (.map 103 e)):
  ∃w',(Instr.range mt (.map (N r))).run prog w=.ok (Q5 (N ⟨G (Q w),0,J⟩)) w'/\iJ w' r (G (Q w)) l []/\Below (G (Q w)) w w'/\G (Q w')=G (Q w)+1:=by
 obtain⟨es,b,d,hl,hc,i,hk⟩:=h;obtain⟨zs,h1,o⟩:=Hs es.toList l hl;have j:es=(zs.map sP).toArray:=by rw[<-h1]
 have s:=gm d;refine⟨Ro w (.mapIter (N r) b #[] b),?_,⟨zs,[],b,b,b,o,rfl,?_,gB w _,?_,aq _,aq _,?_,hk,(fun _ h=>by cases h),List.nodup_nil⟩,(gJ w).alloc gH _,by simp⟩
 .simp[Instr.range,aO m,aL d,Result.andThen,newObj,Sem.run]
 .rw[<-j];exact gP w _ d
 .intro z q;exact hc (sP z) (by rw[h1];exact aA.2 ⟨z,q,rfl⟩)
 .rw[h1,gh]at i;exact i
theorem iJ.next(h:iJ w r q l pre)(ty:Ri):
  (w.rangeLeft r q=0/\(Instr.next (Q5 (N ⟨q,0,J⟩)) false ty).run prog w=.ok (Rc #[Rh false]) w)\/
  ∃(x:K×Q4) (w':Q0),x∈l/\x.1∉pre.map (·.1)/\(Instr.next (Q5 (N ⟨q,0,J⟩)) false ty).run prog w=.ok (Rc #[Rh true,kV x.1,x.2]) w'/\iJ w' r q l (pre++[x])/\w.grownBy w' (N q)/\G (Q w')=G (Q w)/\
   (Instr.entry (Q5 (N ⟨q,0,J⟩))).run prog w'=.ok (Rc #[kV x.1,x.2]) w'/\r≠q:=by
 have h':=h;obtain⟨zs,i,d,since,c0,rfl,rfl,m,hq,S,h0,hc,U,hk,hy,V⟩:=h;have o:r≠q:=fun e=>by rw[e]at m;rw[m]at hq;cases hq
 have hold:∀x∈((zs.map sP).toArray).toList,x.born<since:=by intro x hx;obtain⟨z,E,rfl⟩:=aA.1 (show x∈zs.map sP from hx);exact S z E
 rcases run_next_at (P:=prog) w ty q r since c0 (i.map (·.2.2)).toArray (zs.map sP).toArray d hq m hold h0 with ⟨h1,h2⟩|⟨e0,u,w1,j,F⟩
 .left;refine⟨?_,h2⟩;unfold World.rangeLeft;rw[m,hq];exact h1
 .right;rw[DD]at u;obtain⟨z,E,rfl⟩:=aA.1 u;obtain⟨s,W⟩:=cF.1 E;have M:z.2.2∉i.map (·.2.2):=by simpa using W
  have B:w1.heap[r]?=N (.map (zs.map sP).toArray d):=by rcases j with rfl|rfl<;>exact m
  have C:w1.heap[q]?=N (.mapIter (N r) since (i.map (·.2.2)).toArray c0):=by rcases j with rfl|rfl<;>exact hq
  have X:iJ (setBlock w1 q (.mapIter (N r) since ((i.map (·.2.2)).toArray.push z.2.2) d)) r q (zs.map Oa) (i.map Oa++[Oa z]):=by
   refine⟨zs,i++[z],d,since,d,rfl,by simp,?_,?_,S,hc,hc,U,hk,?_,?_⟩
   .rw[rs _ _ _ o];exact B
   .rw[iG C];simp
   .intro y Z;rcases bQ.1 Z with h|h
    .exact hy y h
    .rw[ay.1 h];exact s
   .rw[bj];refine cE.2 ⟨V,by simp,fun a ha b D e=>?_⟩;simp at D;exact M (by rw[<-D,<-e];exact ha)
  have hg:w.grownBy (setBlock w1 q (.mapIter (N r) since ((i.map (·.2.2)).toArray.push z.2.2) d)) (N q):=by
   rcases j with rfl|rfl
   .exact⟨rfl,rfl,rfl,by simp[setBlock],fun k _ hk=>rs _ _ _ (fun e=>hk (by rw[e]))⟩
   .exact⟨rfl,rfl,rfl,by simp[setBlock],fun k _ hk=>rs w.drew _ _ (fun e=>hk (by rw[e]))⟩
  refine⟨Oa z,_,aA.2 ⟨z,s,rfl⟩,?_,F,X,hg,?_,?_,o⟩
  .have:=X.sub.2.2;rw[bj,cE]at this;intro R;exact this.2.2 _ R _ (by simp) rfl
  .rcases j with rfl|rfl<;>simp[setBlock]
  .refine run_entry_at _ q r since (i.map (·.2.2)).toArray (zs.map sP).toArray d (sP z) (iG C) ?_ (show sP z∈zs.map sP from aA.2 ⟨z,s,rfl⟩) ?_
   .rw[rs _ _ _ o];exact B
   .simpa [sP,Function.comp_def]using U
variable {iS:Array Oper} {rest:List Oper} {o:Oper} {a:Act} {Qq:Exit->Act->Q0->Prop}
theorem nE(i:o.guard=J)(m:Operand)(d:o.op=Op.range mt m)(j:prog.underlying mt=N (.map 103 e))(hm:a.eval m=.map (N r))(h:ix w r l)(hK:∀w',iJ w' r (G (Q w)) l []->Below (G (Q w)) w w'->G (Q w')=G (Q w)+1->wpList prog iS Qq rest (a.put o.dst (Q5 (N ⟨G (Q w),0,J⟩))) w'):
  wpList prog iS Qq (o::rest) a w:=by
 refine eN i fun K' hK'=>?_;obtain⟨w',b,r1,r2,q⟩:=h.range j;unfold Oper.wp;simp[execOp,d,hm,b,Result.andThen];exact hK' _ _ (hK w' r1 r2 q)
theorem oD(D:o.guard=J)(it:Operand)(m:o.op=Op.next it false)(s:a.eval it=Q5 (N ⟨q,0,J⟩))(h:iJ w r q l pre)(i:pre.Perm l->wpList prog iS Qq rest (a.put o.dst (Rc #[Rh false])) w)(j:∀(b:Int) (kb:gw) (v:Q4) (w':Q0),((b,kb),v)∈l->(b,kb)∉pre.map (·.1)->iJ w' r q l (pre++[((b,kb),v)])->w.grownBy w' (N q)->G (Q w')=G (Q w)->
    (Instr.entry (Q5 (N ⟨q,0,J⟩))).run prog w'=.ok (Rc #[Q9 #[I Y b,Q7 ⟨Rm kb⟩],v]) w'->r≠q->wpList prog iS Qq rest (a.put o.dst (Rc #[Rh true,Q9 #[I Y b,Q7 ⟨Rm kb⟩],v])) w'):
  wpList prog iS Qq (o::rest) a w:=by
 refine eN D fun K' hK'=>?_;unfold Oper.wp;rcases h.next o.type with ⟨E,d⟩|⟨⟨⟨b,kb⟩,v⟩,w',F,u,d,M,x,y,B,C⟩
 .simp[execOp,m,s,d,Result.andThen];exact hK' _ _ (i (h.perm E))
 .simp[execOp,m,s,d,Result.andThen];exact hK' _ _ (j b kb v w' F u M x y B C)
variable {F:Fence} {nF:Nat}
theorem sA(j:o.guard=J)(m:Operand)(b:o.op=Op.range mt m)(q:prog.underlying mt=N (.map 103 e))(hm:a.eval m=.map (N r))(h:ix w r l)(hK:∀w',iJ w' r (G (Q w)) l []->Below (G (Q w)) w w'->G (Q w')=G (Q w)+1->wpListIn F nF prog iS Qq rest (a.put o.dst (Q5 (N ⟨G (Q w),0,J⟩))) w'):
  wpListIn F nF prog iS Qq (o::rest) a w:=by
 refine wpListIn_plain j fun K' hK'=>?_;obtain⟨w',d,r1,r2,s⟩:=h.range q;unfold Oper.wpIn;refine⟨by simp[Oper.about,b],?_⟩;rw[Oper.semAt_plain F _ _ (by rw[b];intro c i;cases i)];simp[execOp,b,hm,d,Result.andThen];exact hK' _ _ (hK w' r1 r2 s)
theorem tA(E:o.guard=J)(it:Operand)(i:o.op=Op.next it false)(s:a.eval it=Q5 (N ⟨q,0,J⟩))(h:iJ w r q l pre)(j:pre.Perm l->wpListIn F nF prog iS Qq rest (a.put o.dst (Rc #[Rh false])) w)(m:∀(b:Int) (kb:gw) (v:Q4) (w':Q0),((b,kb),v)∈l->(b,kb)∉pre.map (·.1)->iJ w' r q l (pre++[((b,kb),v)])->w.grownBy w' (N q)->G (Q w')=G (Q w)->
    (Instr.entry (Q5 (N ⟨q,0,J⟩))).run prog w'=.ok (Rc #[Q9 #[I Y b,Q7 ⟨Rm kb⟩],v]) w'->r≠q->wpListIn F nF prog iS Qq rest (a.put o.dst (Rc #[Rh true,Q9 #[I Y b,Q7 ⟨Rm kb⟩],v])) w'):
  wpListIn F nF prog iS Qq (o::rest) a w:=by
 refine wpListIn_plain E fun K' hK'=>?_;unfold Oper.wpIn;refine⟨by simp[Oper.about,i],?_⟩;rw[Oper.semAt_plain F _ _ (by rw[i];intro c u;cases u)];rcases h.next o.type with ⟨M,d⟩|⟨⟨⟨b,kb⟩,v⟩,w',R,x,d,S,y,B,C,D⟩
 .simp[execOp,i,s,d,Result.andThen];exact hK' _ _ (j (h.perm M))
 .simp[execOp,i,s,d,Result.andThen];exact hK' _ _ (m b kb v w' R x S y B C D)
end
abbrev E:=K×gw
variable{h m:List E}{x y:E}
def oT(a b:K):Bool:=decide (a.1<b.1) || (decide (a.1=b.1)&&decide (a.2<b.2))
theorem rj(a b:K):oT a b=true↔a.1<b.1\/(a.1=b.1/\a.2<b.2):=by simp[oT]
theorem rJ(a:K):oT a a=false:=by
 cases h:oT a a with
 | false=>rfl
 | true=>
  rw[rj]at h;rcases h with h|⟨-,h⟩
  .omega
  .exact absurd h (fy _)
theorem qf{a b c:K}(h:oT a b=true)(k:oT b c=true):oT a c=true:=by
 rw[rj]at *
 rcases h with h|⟨h1,i⟩
 .rcases k with k|⟨j,d⟩
  .exact .inl (by omega)
  .exact .inl (by omega)
 .rcases k with k|⟨j,d⟩
  .exact .inl (by omega)
  .exact .inr ⟨by omega,List.lt_trans i d⟩
theorem mY{a b:K}(h:oT a b=true):oT b a=false:=by
 cases k:oT b a with
 | false=>rfl
 | true=>rw[<-rJ a,qf h k]
theorem sK{a b:K}(h:oT a b=true):a≠b:=fun e=>by rw[e,rJ]at h;cases h
theorem xQ(a b:K):oT a b=true\/a=b\/oT b a=true:=by
 rw[rj,rj];rcases dY a.1 b.1 with h|h|h
 .exact .inl (.inl h)
 .by_cases h1:a.2<b.2
  .exact .inl (.inr ⟨h,h1⟩)
  .by_cases d:b.2<a.2
   .exact .inr (.inr (.inr ⟨h.symm,d⟩))
   .exact .inr (.inl (Prod.ext h (List.le_antisymm (List.not_lt.1 d) (List.not_lt.1 h1))))
 .exact .inr (.inr (.inl h))
def gM(S:List E):Prop:=S.Pairwise fun x y=>oT x.1 y.1=true
theorem gM.nil:gM []:=List.Pairwise.nil
theorem gM.qM{S:List E}(h:gM S):(S.map (·.1)).Nodup:=ea.2 (h.imp fun h=>sK h)
theorem gM.nodup{S:List E}(h:gM S):S.Nodup:=List.Pairwise.imp (R:=fun x y:E=>oT x.1 y.1=true) (fun {a b} h (e:a=b)=>sK h (by rw[e])) h
theorem gM.ext:∀{S T:List E},gM S->gM T->(∀x,x∈S↔x∈T)->S=T
 | [],[],_,_,_=>rfl
 | [],y::T,_,_,h=>by have:=(h y).2 (by simp);cases this
 | x::S,[],_,_,h=>by have:=(h x).1 (by simp);cases this
 | x::S,y::T,q,r,h=>by
  obtain⟨d,l⟩:=fP.1 q;obtain⟨i,m⟩:=fP.1 r;have o:x=y:=by
   rcases aZ.1 ((h x).1 (by simp))with e|s
   .exact e
   .rcases aZ.1 ((h y).2 (by simp))with e|u
    .exact e.symm
    .have:=mY (i x s);rw[d y u]at this;cases this
  subst o;congr 1;refine gM.ext l m fun z=>⟨fun b=>?_,fun b=>?_⟩
  .rcases aZ.1 ((h z).1 (aR _ b))with e|j
   .exact absurd e.symm (fun e=>sK (d z b) (by rw[e]))
   .exact j
  .rcases aZ.1 ((h z).2 (aR _ b))with e|j
   .exact absurd e.symm (fun e=>sK (i z b) (by rw[e]))
   .exact j
def nf(k:K)(v:gw)(S:List E):List E:=S.filter (fun x=>oT x.1 k)++(k,v)::S.filter (fun x=>oT k x.1)
def om(k:K)(S:List E):List E:=S.filter fun x=>!(x.1==k)
def ku(k:K)(S:List E):Option gw:=(S.find? fun x=>k==x.1).map (·.2)
theorem kG(k:K)(v:gw){S:List E}(h:gM S):gM (nf k v S):=by
 unfold nf gM;rw[dR];refine⟨h.filter _,fP.2 ⟨fun y b=>(cF.1 b).2,h.filter _⟩,fun x d y b=>?_⟩;have h1:=(cF.1 d).2;rcases aZ.1 b with rfl|b
 .exact h1
 .exact qf h1 (cF.1 b).2
theorem pD(k:K){S:List E}(h:gM S):gM (om k S):=h.filter _
theorem mF(k:K)(v:gw)(S:List E)(x:E):x∈nf k v S↔x=(k,v)\/(x∈S/\x.1≠k):=by
 unfold nf;simp only[bQ,cF,aZ];constructor
 .rintro(⟨h1,b⟩|h|⟨h1,b⟩)
  .exact .inr ⟨h1,sK b⟩
  .exact .inl h
  .exact .inr ⟨h1,(sK b).symm⟩
 .rintro(h|⟨h1,b⟩)
  .exact .inr (.inl h)
  .rcases xQ x.1 k with h|h|h
   .exact .inl ⟨h1,h⟩
   .exact absurd h b
   .exact .inr (.inr ⟨h1,h⟩)
theorem qE(k:K)(S:List E)(x:E):x∈om k S↔x∈S/\x.1≠k:=by unfold om;rw[cF];simp
theorem MT{l:List E}{k:K}(h:l.find? (fun x=>k==x.1)=N x):x∈l/\x.1=k:=by refine⟨List.mem_of_find?_eq_some h,?_⟩;have:=List.find?_some h;exact(aT.1 this).symm
theorem se{S:List E}(h:(S.map (·.1)).Nodup)(k:K)(v:gw):ku k S=N v↔(k,v)∈S:=by
 unfold ku;constructor
 .intro b;obtain⟨x,d,rfl⟩:=cH.1 b;obtain⟨h1,i⟩:=MT d;rw[<-i];exact h1
 .intro hm
  induction S with
  | nil=>cases hm
  | cons y S ih=>
   rw[bG,dN]at h;rw[dL];rcases aZ.1 hm with rfl|hm
   .simp
   .have:(k==y.1)=false:=by
     rw[ar];exact fun e=>h.1 (e▸aA.2 ⟨_,hm,rfl⟩)
    rw[this];exact ih h.2 hm
theorem QQ{S:List E}(k:K):ku k S=J↔∀x∈S,x.1≠k:=by
 unfold ku;rw[Option.map_eq_none_iff,ez];constructor
 .intro h x b e;exact h x b (by rw[aT,e])
 .intro h x b e;exact h x b (aT.1 e).symm
def Ja(S:List E)(o:kv):List E:=if o.kind=1 then nf (o.table,o.key) o.val S else om (o.table,o.key) S
def iO(S:List E)(os:List kv):List E:=os.foldl Ja S
theorem DV{S:List E}(o:kv)(h:gM S):gM (Ja S o):=by
 unfold Ja;split
 .exact kG _ _ h
 .exact pD _ h
theorem sm:∀{S:List E} (os:List kv),gM S->gM (iO S os)
 | _,[],h=>h
 | _,o::os,h=>sm os (DV o h)
theorem EC(S:List E)(os us:List kv):iO S (os++us)=iO (iO S os) us:=dZ
theorem Be(S:List E)(os:List kv)(k:Nat)(h:k<O os):iO S (os.take (k+1))=Ja (iO S (os.take k)) os[k]:=by rw[aC h,EC];rfl
def iq(t:Int)(S:List E):Nat:=S.countP fun x=>decide (x.1.1=t)
def jw(S:List E):Nat:=(S.map fun x=>1+O x.1.2+O x.2).sum
def nW(s:gw):Q4:=Q9 #[Q7 ⟨Rm s⟩]
def zS(x:E):K×Q4:=(x.1,nW x.2)
theorem NP{a b:gw}(h:nW a=nW b):a=b:=by unfold nW at h;simp only[fN,fX,ep,Value.string.injEq,ByteArray.mk.injEq,and_true]at h;exact h
theorem P0(h:zS x=zS y):x=y:=by unfold zS at h;simp only[Prod.mk.injEq]at h;exact Prod.ext h.1 (NP h.2)
def iE(w:Q0)(r:Nat)(S:List E):Prop:=gM S/\∃L,ix w r L/\L.Perm (S.map zS)
theorem iE.sorted{w:Q0}{r:Nat}{S:List E}(h:iE w r S):gM S:=h.1
theorem iE.lt{w:Q0}{r:Nat}{S:List E}(h:iE w r S):r<G (Q w):=h.2.elim fun _ h=>h.1.lt
theorem iE.iI{w:Q0}{r:Nat}{S:List E}(h:iE w r S)(b:w'.heap[r]?=w.heap[r]?):iE w' r S:=by obtain⟨d,L,hm,i⟩:=h;exact⟨d,L,hm.iI b,i⟩
theorem iE.new(w:Q0):iE (Ro w (.map #[] 0)) (G (Q w)) []:=⟨gM.nil,[],ix.new w,List.Perm.refl _⟩
theorem vH(S:List E):(S.map zS).map (·.1)=S.map (·.1):=by rw[gh];rfl
theorem tJ{k:K}{v:Q4}: ∀{L:List (K×Q4)},(L.map (·.1)).Nodup->(rV k L=N v↔(k,v)∈L)
 | [],_=>by simp[rV]
 | y::L,h=>by
  rw[bG,dN]at h;unfold rV;rw[dL];cases hk:(k==y.1) with
  | true=>
   rw[aT]at hk;subst hk;simp only[et,dz,aZ];constructor
   .rintro rfl;exact .inl rfl
   .rintro(e|hm)
    .rw[<-e]
    .exact absurd (aA.2 ⟨_,hm,rfl⟩) h.1
  | false=>
   rw[ar]at hk;have:=@tJ k v L h.2;unfold rV at this;simp only[this,aZ];constructor
   .exact .inr
   .rintro(e|hm)
    .exact absurd (by rw[<-e]) hk
    .exact hm
theorem J8{S:List E}(j:gM S)(d:(L.map (·.1)).Nodup)(i:L.Perm (S.map zS))(k:K):rV k L=(ku k S).map nW:=by
 cases b:ku k S with
 | some v=>rw[se j.qM]at b;exact(tJ d).2 (i.mem_iff.2 (aA.2 ⟨_,b,rfl⟩))
 | none=>
  rw[QQ]at b;cases ha:rV k L with
  | none=>rfl
  | some v=>rw[tJ d,i.mem_iff]at ha;obtain⟨x,l,e⟩:=aA.1 ha;exact absurd (bm Prod.fst e) (b x l)
theorem vJ{l:List K}(h:l.Nodup){i j:Nat}(b:i<O l)(d:j<O l)(e:l[i]=l[j]):i=j:=
 (List.getElem?_inj b h).1 (by rw[ah b,ah d,e])
theorem vd(k:K)(v:Q4)(s:(L.map (·.1)).Nodup)(x:K×Q4):x∈qH k v L↔x=(k,v)\/(x∈L/\x.1≠k):=by
 unfold qH;cases o:ju k L 0 with
 | none=>
  have ha:=kY k L 0 o;simp only[bQ,ay];constructor
  .rintro(h|h)
   .exact .inr ⟨h,ha x h⟩
   .exact .inl h
  .rintro(h|h)
   .exact .inr h
   .exact .inl h.1
 | some y=>
  obtain⟨j,u⟩:=y;obtain⟨-,q⟩:=mO k L 0 j u o;rw[cO]at q;obtain⟨d,l⟩:=aH.1 q;simp only;constructor
  .intro h;obtain⟨i,b,e⟩:=cZ h;rw[List.getElem_set]at e;rw[cA]at b;split at e
   .exact .inl e.symm
   .rename_i r;refine .inr ⟨e▸bq b,fun hk=>r ?_⟩;have h1:(L.map (·.1))[j]'(by simpa using d)=k:=by simp[l]
    have m:(L.map (·.1))[i]'(by simpa using b)=k:=by simp[e,hk]
    exact vJ s _ _ (h1.trans m.symm)
  .rintro(h|⟨h1,m⟩)
   .rw[h];exact be (i:=j) (by rw[eF d])
   .obtain⟨i,b,rfl⟩:=cZ h1;refine be (i:=i) ?_;rw[eL (fun e=>m (by subst e;rw[l])),ah b]
theorem KW(k:K)(s:(L.map (·.1)).Nodup)(x:K×Q4):x∈F6 k L↔x∈L/\x.1≠k:=by
 unfold F6;cases m:ju k L 0 with
 | none=>have ha:=kY k L 0 m;exact⟨fun h=>⟨h,ha x h⟩,fun h=>h.1⟩
 | some y=>
  obtain⟨j,u⟩:=y;obtain⟨-,o⟩:=mO k L 0 j u m;rw[cO]at o;obtain⟨q,d⟩:=aH.1 o;simp only;rw[List.mem_eraseIdx_iff_getElem];constructor
  .rintro⟨i,b,r,e⟩;refine⟨e▸bq b,fun hk=>r ?_⟩;have h1:(L.map (·.1))[j]'(by simpa using q)=k:=by simp[d]
   have l:(L.map (·.1))[i]'(by simpa using b)=k:=by simp[e,hk]
   exact(vJ s _ _ (h1.trans l.symm)).symm
  .rintro⟨h1,l⟩;obtain⟨i,b,rfl⟩:=cZ h1;exact⟨i,b,fun e=>l (by subst e;rw[d]),rfl⟩
theorem wk(h:(L.map (·.1)).Nodup):L.Nodup:=(ea.1 h).imp fun h e=>h (by rw[e])
section
open Classical in
theorem zC{M:List (K×Q4)}(hl:(L.map (·.1)).Nodup)(hm:(M.map (·.1)).Nodup)(h:∀x,x∈L↔x∈M):L.Perm M:=
 (dD (wk hl) (wk hm)).2 h
end
theorem ix.qM{w:Q0}{r:Nat}(h:ix w r L):(L.map (·.1)).Nodup:=by obtain⟨_,_,_,_,_,_,hk⟩:=h;exact hk
section
variable {w:Q0} {r:Nat} {S:List E} {mt e:Ri}
theorem iE.put(h:iE w r S)(m:prog.underlying mt=N (.map 103 e))(k:K)(v:gw):
  ∃b,(∀n,(Instr.mapUpdate mt (.map (N r)) (kV k) (nW v)).run prog (w.drewN n)=.ok () (b.drewN n))/\iE b r (nf k v S)/\w.grownBy b (N r)/\G (Q b)=G (Q w):=by
 obtain⟨j,L,hm,o⟩:=h;obtain⟨b,h1,d,q,s⟩:=hm.update m k (nW v);refine⟨b,h1,⟨kG k v j,_,d,zC d.qM (by rw[vH];exact(kG k v j).qM) fun x=>?_⟩,q,s⟩;rw[vd k _ hm.qM,o.mem_iff,aA,aA];constructor
 .rintro(rfl|⟨⟨y,i,rfl⟩,l⟩)
  .exact⟨(k,v),(mF k v S _).2 (.inl rfl),rfl⟩
  .exact⟨y,(mF k v S _).2 (.inr ⟨i,l⟩),rfl⟩
 .rintro⟨y,i,rfl⟩;rcases(mF k v S _).1 i with rfl|⟨h1,d⟩
  .exact .inl rfl
  .exact .inr ⟨⟨y,h1,rfl⟩,d⟩
theorem iE.drop(h:iE w r S)(m:prog.underlying mt=N (.map 103 e))(k:K)(t2 ty:Ri):
  ∃b,(∀n,(Builtin.delete_ #[mt,t2] ty #[.map (N r),kV k]).run prog (w.drewN n)=.ok (Rc #[]) (b.drewN n))/\iE b r (om k S)/\w.grownBy b (N r)/\G (Q b)=G (Q w):=by
 obtain⟨j,L,hm,o⟩:=h;obtain⟨b,h1,d,q,s⟩:=hm.delete m k t2 ty;refine⟨b,h1,⟨pD k j,_,d,zC d.qM (by rw[vH];exact(pD k j).qM) fun x=>?_⟩,q,s⟩;rw[KW k hm.qM,o.mem_iff,aA,aA];constructor
 .rintro⟨⟨y,i,rfl⟩,l⟩;exact⟨y,(qE k S _).2 ⟨i,l⟩,rfl⟩
 .rintro⟨y,i,rfl⟩;obtain⟨h1,d⟩:=(qE k S _).1 i;exact⟨⟨y,h1,rfl⟩,d⟩
theorem iE.mX(h:iE w r S)(b:prog.underlying mt=N (.map 103 e))(d:(zeroValue e).run prog w=.ok (nW []) w)(k:K):
  (Instr.lookup mt (.map (N r)) (kV k) true).run prog w=.ok (Rc #[nW ((ku k S).getD []),Rh (ku k S).isSome]) w:=by
 obtain⟨i,L,hm,j⟩:=h;rw[hm.mX b d k,J8 i hm.qM j];cases ku k S<;>rfl
theorem iE.lookup(h:iE w r S)(b:prog.underlying mt=N (.map 103 e))(d:(zeroValue e).run prog w=.ok (nW []) w)(k:K):
  (Instr.lookup mt (.map (N r)) (kV k) false).run prog w=.ok (nW ((ku k S).getD [])) w:=by
 obtain⟨i,L,hm,j⟩:=h;rw[hm.lookup b d k,J8 i hm.qM j];cases ku k S<;>rfl
end
theorem ot{l:List E}(h:((l.map zS).map (·.1)).Nodup):l.Nodup:=by rw[vH]at h;exact(ea.1 h).imp (fun h e=>h (by rw[e]))
theorem yK{l:List E}(h:zS x∈l.map zS):x∈l:=by obtain⟨y,b,e⟩:=aA.1 h;rw[<-P0 e];exact b
theorem vL{l S:List E}(hl:l.Nodup)(d:S.Nodup)(h:(l.map zS).Perm (S.map zS)):l.Perm S:=
 (dD hl d).2 fun x=>⟨fun b=>yK (h.mem_iff.1 (aA.2 ⟨x,b,rfl⟩)),fun b=>yK (h.mem_iff.2 (aA.2 ⟨x,b,rfl⟩))⟩
theorem ze(t:Int)(l:List E)(x:E):iq t (l++[x])=iq t l+if x.1.1=t then 1 else 0:=by unfold iq;rw[List.countP_append,fD,List.countP_nil];simp
theorem zd(t:Int){l:List E}(h:l.Perm m):iq t l=iq t m:=h.countP_eq _
theorem wQ{l:List E}(b:l.Nodup)(h:∀x∈l,x∈m):O l<=O m:=by
 classical
 induction l generalizing m with
 | nil=>exact aJ _
 | cons x l ih=>rw[dN]at b;have i:=(List.perm_cons_erase (h x (by simp))).length_eq;have:=ih (m:=m.erase x) b.2 (fun y d=>(List.mem_erase_of_ne (fun e=>b.1 (by rw[<-e];exact d))).2 (h y (aR _ d)));simp only[ao]at i⊢;omega
abbrev wF:=K×Option gw
def oh(h w:List E):List E:=h.filter fun x=>(ku x.1 w).isNone
def rY(h w:List E):List E:=w.filter fun x=>!decide (x∈h)
def oX(l:List E):List wF:=l.map fun x=>(x.1,J)
def nN(l:List E):List wF:=l.map fun x=>(x.1,N x.2)
def lU(h w:List E):List wF:=oX (oh h w)++nN (rY h w)
def PA(S:List E)(o:wF):List E:=match o.2 with
 | none=>om o.1 S
 | some v=>nf o.1 v S
def nj(S:List E)(os:List wF):List E:=os.foldl PA S
theorem Ex(S:List E)(os us:List wF):nj S (os++us)=nj (nj S os) us:=dZ
theorem LU{S:List E}(o:wF)(h:gM S):gM (PA S o):=by
 unfold PA;split
 .exact pD _ h
 .exact kG _ _ h
theorem vm:∀{S:List E} (os:List wF),gM S->gM (nj S os)
 | _,[],h=>h
 | _,o::os,h=>vm os (LU o h)
theorem DF:∀(l:List E) (S:List E) (x:E),x∈nj S (oX l)↔x∈S/\x.1∉l.map (·.1)
 | [],S,x=>by simp[nj,oX]
 | y::l,S,x=>by have ih:=DF l (om y.1 S) x;rw[qE]at ih;simp only[bG,aZ,not_or];exact ih.trans ⟨fun h=>⟨h.1.1,h.1.2,h.2⟩,fun h=>⟨⟨h.1,h.2.1⟩,h.2.2⟩⟩
theorem Bv:∀(l:List E) (S:List E) (x:E),(l.map (·.1)).Nodup->(x∈nj S (nN l)↔x∈l\/(x∈S/\x.1∉l.map (·.1)))
 | [],S,x,_=>by simp[nj,nN]
 | y::l,S,x,b=>by
  rw[bG,dN]at b;have ih:=Bv l (nf y.1 y.2 S) x b.2;rw[mF]at ih;have e:nj S (nN (y::l))=nj (nf y.1 y.2 S) (nN l):=rfl;rw[e,ih];simp only[bG,aZ,not_or];constructor
  .rintro(h|⟨(h|h),d⟩)
   .exact .inl (.inr h)
   .exact .inl (.inl h)
   .exact .inr ⟨h.1,h.2,d⟩
  .rintro((h|h)|⟨h1,d,i⟩)
   .exact .inr ⟨.inl h,by rw[h];exact b.1⟩
   .exact .inl h
   .exact .inr ⟨.inr ⟨h1,d⟩,i⟩
theorem gM.filter{S:List E}(h:gM S)(p:E->Bool):gM (S.filter p):=List.Pairwise.filter p h
theorem gM.take{S:List E}(h:gM S)(n:Nat):gM (S.take n):=h.sublist (List.take_sublist n S)
theorem gM.drop{S:List E}(h:gM S)(n:Nat):gM (S.drop n):=h.sublist (List.drop_sublist n S)
theorem gM.inj{S:List E}(h:gM S)(b:x∈S)(d:y∈S)(e:x.1=y.1):x=y:=by have h1:=(se h.qM x.1 x.2).2 b;have i:=(se h.qM y.1 y.2).2 d;rw[e,i]at h1;exact Prod.ext e (Option.some.inj h1).symm
theorem yJ{w:List E}(x:E):x∈oh h w↔x∈h/\x.1∉w.map (·.1):=by unfold oh;rw[cF,fG,QQ];refine and_congr_right fun _=>⟨fun H hk=>?_,fun H y b e=>H (aA.2 ⟨y,b,e⟩)⟩;obtain⟨y,b,e⟩:=aA.1 hk;exact H y b e
theorem qF{w:List E}(x:E):x∈rY h w↔x∈w/\x∉h:=by unfold rY;rw[cF];simp
theorem Ey(l:List E)(n:Nat):(oX l).take n=oX (l.take n):=(List.map_take ..).symm
theorem GS(l:List E)(n:Nat):(nN l).take n=nN (l.take n):=(List.map_take ..).symm
theorem pM(l:List E):(oX l).length=O l:=aB _
theorem CN(l:List E):(nN l).length=O l:=aB _
theorem DE{w:List E}(b:gM w)(n:Nat)(x:E):x∈nj h ((lU h w).take n)↔
  x∈(rY h w).take (n-(oh h w).length)\/(x∈h/\x.1∉((oh h w).take n).map (·.1)/\x.1∉((rY h w).take (n-(oh h w).length)).map (·.1)):=by
 unfold lU;rw[List.take_append,Ey,pM,GS,Ex,Bv _ _ _ ((show gM (rY h w)from b.filter _).take _).qM,DF];rw[and_assoc]
theorem Kp{w:List E}(o:gM h)(l:gM w):nj h (lU h w)=w:=by
 refine gM.ext (vm _ o) l fun x=>?_;have:=DE (h:=h) l (lU h w).length x;rw[aM]at this;rw[this];have hl:(lU h w).length=(oh h w).length+(rY h w).length:=by unfold lU;rw[ab,pM,CN]
 rw[aW (by omega),aW (by omega)];constructor
 .rintro(h1|⟨h1,q,r⟩)
  .exact((qF x).1 h1).1
  .by_cases hk:x.1∈w.map (·.1)
   .obtain⟨y,b,e⟩:=aA.1 hk;by_cases i:y∈h
    .rw[<-o.inj i h1 e];exact b
    .exact absurd (aA.2 ⟨y,(qF y).2 ⟨b,i⟩,e⟩) r
   .exact absurd (aA.2 ⟨x,(yJ x).2 ⟨h1,hk⟩,rfl⟩) q
 .intro m;by_cases d:x∈h
  .refine .inr ⟨d,fun hk=>?_,fun hk=>?_⟩
   .obtain⟨y,b,e⟩:=aA.1 hk;exact((yJ y).1 b).2 (by rw[e];exact aA.2 ⟨x,m,rfl⟩)
   .obtain⟨y,b,e⟩:=aA.1 hk;have j:=(qF y).1 b;have:=l.inj j.1 m e;subst this;exact j.2 d
  .exact .inl ((qF x).2 ⟨m,d⟩)
theorem uS{α:Type}{l m:List α}(b:l.Nodup)(h:∀x∈l,x∈m):O l<=O m:=by
 classical
 induction l generalizing m with
 | nil=>exact aJ _
 | cons x l ih=>rw[dN]at b;have i:=(List.perm_cons_erase (h x (by simp))).length_eq;have:=ih (m:=m.erase x) b.2 (fun y d=>(List.mem_erase_of_ne (fun e=>b.1 (by rw[<-e];exact d))).2 (h y (aR _ d)));simp only[ao]at i⊢;omega
theorem sb(t:Int)(S:List E):iq t S=((S.map (·.1)).filter fun k=>decide (k.1=t)).length:=by unfold iq;rw[List.countP_eq_length_filter,List.filter_map,aB];rfl
theorem yu{S T:List E}(b:gM S)(h:∀x∈S,x.1∈T.map (·.1))(t:Int):iq t S<=iq t T:=by rw[sb,sb];refine uS (b.qM.filter _) fun k hk=>?_;rw[cF]at hk⊢;obtain⟨x,d,rfl⟩:=aA.1 hk.1;exact⟨h x d,hk.2⟩
theorem AO{S:List E}{k:K}{v:gw}(d:gM S)(hk:ku k S=J):iq k.1 (nf k v S)=iq k.1 S+1:=by
 have j:(nf k v S).Perm (S++[(k,v)]):=by
  refine(dD (kG k v d).nodup ?_).2 fun x=>?_
  .rw[cE];refine⟨d.nodup,by simp,fun a ha b i e=>?_⟩;rw[ay]at i;subst i e;exact(QQ k).1 hk _ ha rfl
  .rw[mF,bQ,ay];constructor
   .rintro(h|h)
    .exact .inr h
    .exact .inl h.1
   .rintro(h|h)
    .exact .inr ⟨h,(QQ k).1 hk x h⟩
    .exact .inl h
 rw[show iq k.1 (nf k v S)=iq k.1 (S++[(k,v)])from j.countP_eq _];unfold iq;rw[List.countP_append];simp
theorem Nl{w:List E}{room:Int->Nat}(s:gM h)(u:gM w)(hc:∀t,iq t w<=room t){n:Nat}{k:K}{v:gw}(b:(lU h w)[n]?=N (k,N v)):
  (ku k (nj h ((lU h w).take n))).isSome=true\/iq k.1 (nj h ((lU h w).take n))<room k.1:=by
 have i:=vm ((lU h w).take n) s;have j:(oh h w).length<=n:=by refine Nat.le_of_not_lt fun l=>?_;unfold lU oX at b;rw[cV (by rw[aB];exact l),bg,ah l]at b;cases b
 have y:(rY h w)[n-(oh h w).length]?=N (k,v):=by
  unfold lU nN at b;rw[cT (by rw[pM];exact j),bg,pM]at b;cases q:(rY h w)[n-(oh h w).length]? with
  | none=>rw[q]at b;cases b
  | some x=>rw[q]at b;cases b;rfl
 have r:k∈w.map (·.1):=by have hm:(k,v)∈rY h w:=be y;exact aA.2 ⟨(k,v),((qF _).1 hm).1,rfl⟩
 have m:∀x∈nj h ((lU h w).take n),x.1∈w.map (·.1):=fun x d=>by
  rcases(DE u n x).1 d with h1|⟨h1,o,-⟩
  .exact aA.2 ⟨x,((qF x).1 (eC h1)).1,rfl⟩
  .rw[aW j]at o;refine eI fun hk=>o (aA.2 ⟨x,(yJ x).2 ⟨h1,hk⟩,rfl⟩)
 cases B:ku k (nj h ((lU h w).take n)) with
 | some _=>exact .inl rfl
 | none=>
  right;have h1:=AO (v:=v) i B;have o:=yu (kG k v i) (fun x d=>by
   rcases(mF k v _ x).1 d with rfl|⟨d,-⟩
   .exact r
   .exact m x d) k.1
  have C:=hc k.1;omega
structure jz where
 left:Int
 ir:Bool
 room:Nat->Int
 S:List E
 iF:List gw
def jz.stop(d:jz):jz:={d with left:=if 0<d.left then d.left-1 else d.left,ir:=d.ir || decide (d.left=0)}
def jz.BS(d:jz)(t:Int):Int:=if 0<=t/\t<3 then d.room t.toNat else 0
def mi(t:Int):UInt8:=UInt8.ofNat (t%256).toNat
def oQ(k:K):gw:=[100,114,111,112,32]++[mi k.1]++k.2
def qy(k:K)(v:gw):gw:=[112,117,116,32]++[mi k.1]++k.2++[61]++v
def pn:gw:=[110,111,32,114,111,111,109]
def um(o:wF):gw:=match o.2 with
 | none=>oQ o.1
 | some v=>qy o.1 v
def jz.pQ(d:jz)(k:K):Bool:=(ku k d.S).isSome || decide ((iq k.1 d.S:Int)<d.BS k.1)
def jz.put(d:jz)(k:K)(v:gw):jz:=
 if d.stop.ir then d.stop
 else if d.pQ k then {d.stop with S:=nf k v d.S,iF:=d.iF++[qy k v]}
 else {d.stop with iF:=d.iF++[qy k v]++[pn]}
def jz.drop(d:jz)(k:K):jz:=if d.stop.ir then d.stop else {d.stop with S:=om k d.S,iF:=d.iF++[oQ k]}
def jz.step(d:jz)(o:wF):jz:=match o.2 with
 | none=>d.drop o.1
 | some v=>d.put o.1 v
def jz.run(d:jz)(os:List wF):jz:=os.foldl jz.step d
theorem jz.xY(d:jz)(os:List wF)(o:wF):d.run (os++[o])=(d.run os).step o:=dZ
def jz.Fo(d:jz)(os:List wF)(j:Nat):jz:=
 if d.left<0 then {d with S:=nj d.S (os.take j),iF:=d.iF++(os.take j).map um}
 else {d with left:=d.left-(min d.left.toNat j:Nat),ir:=decide (d.left<j),S:=nj d.S (os.take (min d.left.toNat j)),iF:=d.iF++(os.take (min d.left.toNat j)).map um}
theorem qo{α:Type}(l:List α)(j:Nat){x:α}(h:l[j]?=N x):l.take (j+1)=l.take j++[x]:=by obtain⟨b,rfl⟩:=aH.1 h;exact aC b
theorem jz.DX(d:jz)(o:wF)(b:d.stop.ir=false)(i:∀v,o.2=N v->d.pQ o.1=true):d.step o={d.stop with S:=PA d.S o,iF:=d.iF++[um o]}:=by
 obtain⟨k,v⟩:=o;cases v with
 | none=>unfold jz.step jz.drop PA um;simp only[b];rfl
 | some v=>have:=i v rfl;unfold jz.step jz.put PA um;simp only[b,this];rfl
theorem jz.DW(d:jz)(o:wF)(b:d.stop.ir=true):d.step o=d.stop:=by
 obtain⟨k,v⟩:=o;cases v with
 | none=>unfold jz.step jz.drop;simp only[b];rfl
 | some v=>unfold jz.step jz.put;simp only[b];rfl
theorem AU(S:List E)(os:List wF)(o:wF):nj S (os++[o])=PA (nj S os) o:=dZ
theorem jz.Hb(d:jz)(w:List E)(m:d.ir=false)(s:gM d.S)(u:gM w)(hk:∀x∈w,0<=x.1.1/\x.1.1<3)(hc:∀t:Nat,t<3->(iq t w:Int)<=d.room t):
  ∀j,j<=(lU d.S w).length->d.run ((lU d.S w).take j)=d.Fo (lU d.S w) j
 | 0,_=>by
  unfold jz.Fo;simp only[bp,Nat.min_zero,dM,cX];split
  .rfl
  .rw[show decide (d.left<((0:Nat):Int))=false by simp;omega,<-m];simp[jz.run,nj]
 | j+1,U=>by
  obtain⟨o,q⟩:∃o,(lU d.S w)[j]?=N o:=⟨_,ah (by omega)⟩;have i:∀v,o.2=N v->∀L D b,({d with S:=nj d.S ((lU d.S w).take j),iF:=L,left:=b,ir:=D} : jz).pQ o.1=true:=fun v l L D b=>by
   have r:(lU d.S w)[j]?=N (o.1,N v):=by rw[q,<-l]
   have hm:=be r;have y:0<=o.1.1/\o.1.1<3:=by
    unfold lU at hm;rw[bQ]at hm;rcases hm with hm|hm
    .obtain⟨x,-,e⟩:=aA.1 hm;injection e with B C;cases C
    .obtain⟨x,F,e⟩:=aA.1 hm;injection e with B C;rw[<-B];exact hk x ((qF x).1 F).1
   have:=Nl (room:=fun t=>iq t w) s u (fun _=>aq _) r;unfold jz.pQ jz.BS;rw[dK];refine this.imp id fun h=>?_;have M:=hc o.1.1.toNat (by omega);rw[show((o.1.1.toNat:Nat):Int)=o.1.1 by omega]at M;rw[aw y,dI];show((iq o.1.1 (nj d.S ((lU d.S w).take j)):Nat):Int)<d.room o.1.1.toNat;omega
  rw[qo _ _ q,jz.xY,jz.Hb d w m s u hk hc j (by omega)];unfold jz.Fo;by_cases hl:d.left<0
  .rw[aw hl,aw hl,jz.DX _ _ (by unfold jz.stop;simp[m];omega) (fun v l=>i v l _ _ _),qo _ _ q,AU,bj];unfold jz.stop;simp only[m,jz.mk.injEq,bG,dM,bJ,and_true];refine⟨by rw[af (by omega)],?_⟩;simp;omega
  .rw[af hl,af hl];by_cases R:j<d.left.toNat
   .rw[show min d.left.toNat j=j by omega,show min d.left.toNat (j+1)=j+1 by omega,jz.DX _ _ (by unfold jz.stop;simp;omega) (fun v l=>i v l _ _ _),qo _ _ q,AU,bj];unfold jz.stop;simp only[jz.mk.injEq,bG,dM,bJ,and_true];refine⟨by rw[aw (by omega)];omega,?_⟩;rw[cS];simp;omega
   .rw[show min d.left.toNat j=d.left.toNat by omega,show min d.left.toNat (j+1)=d.left.toNat by omega,jz.DW _ _ (by unfold jz.stop;simp;omega)];unfold jz.stop;simp only[jz.mk.injEq,and_true];refine⟨by rw[af (by omega)],?_⟩;rw[cS];simp;omega
end Go.Proofs.YtkkfmkhbdoeglabGreatDoor
