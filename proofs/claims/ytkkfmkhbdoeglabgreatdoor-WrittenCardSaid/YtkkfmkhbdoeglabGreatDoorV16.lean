/- Lemmas of the proof. No condition. -/
import Derived.Test.YtkkfmkhbdoeglabGreatDoorV15
set_option maxHeartbeats 4000000
set_option maxRecDepth 100000
namespace Go.Proofs.YtkkfmkhbdoeglabGreatDoor
open Go renaming World->Q0,Value->Q4,Calls->Rg,undef->Rj
open Go.IntKind renaming i64->Y
open Go.Obj renaming cells->Q1
open Go.RowKit renaming Below->Q8
open Go.Value renaming int->I,pointer->Q5,slice->Q6,string->Q7,agg->Q9,iface->Rb,ownBlock->Rl
open Go.World renaming heap->Q,alloc->Ro
open List renaming length->O,toArray->Rm
open Option renaming none->J,some->N
open _root_.Array renaming size->G
open Go.Proofs.Tryz
open Go.RowKit
variable{A B D base h j k q r:Nat}{S S0 l:List E}{X b w w' wr:Q0}{d:jz}{p:E->Bool}{v value:gw}{x:HV}
theorem xF(q:E->Bool)(p:List E)(x:E):(p++[x]).filter q=p.filter q++(if q x then [x]else []):=by rw[dB,eQ];cases q x<;>rfl
theorem FU(t:Int)(l:List E)(k:Nat)(h:k<O l):iq t (l.take (k+1))=iq t (l.take k)+if l[k].1.1=t then 1 else 0:=by unfold iq;rw[aC h,List.countP_append,fD,List.countP_nil];simp
theorem JC(l:List E)(k:Nat)(h:k<O l):jw (l.take (k+1))=jw (l.take k)+(1+l[k].1.2.length+l[k].2.length):=by rw[aC h,Ca]
theorem JB(l:List E)(k:Nat):jw (l.take k)<=jw l:=by
 have h:jw l=jw (l.take k)+jw (l.drop k):=by unfold jw;rw[<-List.sum_append_nat,<-bj,cw]
 omega
theorem EW(v:Q4)(l:List E)(t:Int)(w:Q0)(h:iD w v l)(hl:O l<=1000000000):
  Rg prog 56 #[v,I Y t] w fun e w'=>e=.returned (I Y (iq t l:Nat))/\Q8 (G (Q w)) w w':=by
 obtain⟨a,cap,rfl,-,j⟩:=h.gU;have s:=gj j;clear j h;go_enter func56,ntmps56;go_wp2;go_loopw [5,6] (fun n i wr=>∃k:Nat,k<=O l/\n=I Y (iq t (l.take k):Nat)/\i=I Y k/\∃q,wr=w.drewN q) (fun _ i _=>O l-(intOf i).toNat)
 case atStart=>exact⟨0,aJ _,rfl,rfl,0,rfl⟩
 case round=>
  obtain⟨k,hk,rfl,rfl,q,rfl⟩:=hrel;by_cases d:k<O l
  .have u:(k:Int)<O l:=by omega
   obtain⟨B,C,rfl,c0,c1,c2⟩:=s.o k d;have m:=gj (FU t l k d);have hc:iq t (l.take k)<=k:=by have:=List.countP_le_length (p:=fun x:E=>decide (x.1.1=t)) (l:=l.take k);rw[ax]at this;unfold iq;omega
   by_cases r:l[k].1.1=t
   .have b:gy (iq t (l.take (k+1))=iq t (l.take k)+1):=gj (by rw[m.o,aw r]);go_wp2;exact⟨⟨k+1,by omega,by rw[b.o];rfl,rfl,_,rfl⟩,by simp[intOf];omega⟩
   .have b:gy (iq t (l.take (k+1))=iq t (l.take k)):=gj (by rw[m.o,af r];rfl);go_wp2;exact⟨⟨k+1,by omega,by rw[b.o],rfl,_,rfl⟩,by simp[intOf];omega⟩
  .obtain rfl:k=O l:=by omega
   have y:¬(O l:Int)<O l:=by omega
   rw[aM];go_wp2;go_ret;exact⟨rfl,(gJ w).drewN q⟩
theorem G3(v:Q4)(l:List E)(w:Q0)(h:iD w v l)(hl:O l<=1000000000)(b:jw l<=4611686018427387904):
  Rg prog 78 #[v] w fun e w'=>e=.returned (I Y (jw l:Nat))/\Q8 (G (Q w)) w w':=by
 obtain⟨a,cap,rfl,-,m⟩:=h.gU;have u:=gj m;have r:=gj b;clear m h b;go_enter func78,ntmps78;go_wp2;go_loopw [3,4] (fun n i wr=>∃k:Nat,k<=O l/\n=I Y (jw (l.take k):Nat)/\i=I Y k/\∃q,wr=w.drewN q) (fun _ i _=>O l-(intOf i).toNat)
 case atStart=>exact⟨0,aJ _,rfl,rfl,0,rfl⟩
 case round=>
  obtain⟨k,hk,rfl,rfl,q,rfl⟩:=hrel;by_cases d:k<O l
  .have x:(k:Int)<O l:=by omega
   obtain⟨D,F,rfl,c0,c1,c2⟩:=u.o k d;have j:=gj (JC l k d);have y:=gj (au (JB l (k+1)) r.o);obtain⟨n,s⟩:∃n,n=jw (l.take k):=⟨_,rfl⟩;rw[<-s]at j⊢;have B:n+(1+l[k].1.2.length+l[k].2.length)<=4611686018427387904:=by rw[<-j.o];exact y.o
   have g1:wrap64 ((n:Int)+1)=(n:Int)+1:=IntWalk.wrap64_in _ (by omega);have g2:wrap64 ((n:Int)+1+l[k].1.2.length)=(n:Int)+1+l[k].1.2.length:=IntWalk.wrap64_in _ (by omega);have M:wrap64 ((n:Int)+1+l[k].1.2.length+l[k].2.length)=(n:Int)+1+l[k].1.2.length+l[k].2.length:=IntWalk.wrap64_in _ (by omega);clear s;go_wp2;go_quiet (fail);go_wp2;exact⟨⟨k+1,by omega,by rw[j.o];congr 1;omega,rfl,_,rfl⟩,by simp[intOf];omega⟩
  .obtain rfl:k=O l:=by omega
   have C:¬(O l:Int)<O l:=by omega
   rw[aM];go_wp2;go_ret;exact⟨rfl,(gJ w).drewN q⟩
theorem EB(h:k<O l)(b:∀x∈l.take k,p x=false)(hk:p l[k]=true):l.find? p=N l[k]:=by
 have e:l=l.take k++l[k]::l.drop (k+1):=by rw[<-cD h,cw]
 have h1:(l.take k).find? p=J:=ez.2 (fun x d=>by rw[b x d];decide);have i:(l[k]::l.drop (k+1)).find? p=N l[k]:=by rw[dL,hk]
 generalize l[k]=y at *
 rw[e,List.find?_append,h1,i];rfl
theorem yL(h:k<O l)(d:∀x∈l.take k,p x=false)(hk:p l[k]=false):∀x∈l.take (k+1),p x=false:=by
 intro x b;rw[aC h,bQ]at b;rcases b with b|b
 .exact d x b
 .rw[ay]at b;rw[b];exact hk
theorem KR(q off r:Nat)(S:List E)(t:Int)(w:Q0)(he:jt w q off r S)(hl:O S<=1000000000):
  Rg prog 147 #[Q5 (N ⟨q,off,J⟩),I Y t] w fun e w'=>e=.returned (I Y (iq t S:Nat))/\Q8 (G (Q w)) w w':=by
 have hc:=he.cell;obtain⟨U,L,X,hp⟩:=he.jh;have Z:=gj hp;have HN:=gj U.nodup;clear he U hp;go_enter func147,ntmps147;go_wp2_with (first|(refine nE rfl _ rfl underlying162 rfl X ?_;intro w0 aa ak a6)|fail)
 try go_frame
 go_loopw [5] (fun n wr=>∃l:List E,iJ wr r (G (Q w)) L (l.map zS)/\n=I Y (iq t l:Nat)/\Q8 (G (Q w)) w wr) (fun _ wr=>wr.rangeLeft r (G (Q w)))
 case atStart=>exact⟨[],aa,rfl,ak⟩
 case round=>
  obtain⟨l,d,rfl,x⟩:=hrel;go_wp2_with (first|(refine oD rfl _ rfl rfl d ?_ ?_)|fail)
  .intro al;have am:=gj (zd t (vL (ot d.sub.2.2) HN.o (al.trans Z.o)));go_wp2;go_ret;exact⟨by rw[am.o];rfl,x⟩
  .intro m kb v w2 hx av C aE a7 a0 a8;obtain⟨⟨k',R⟩,a1,e⟩:=aA.1 (Z.o.mem_iff.1 hx);cases e;have u:iJ w2 r (G (Q w)) L ((l++[((m,kb),R)]).map zS):=by rw[bj];exact C
   have a2:=ot u.sub.2.2;have a9:iq t l<=1000000000:=by have h1:iq t l<=O l:=List.countP_le_length;have h2:O l<=O S:=wQ (ot d.sub.2.2) (fun y hy=>yK (Z.o.mem_iff.1 (d.sub.1 _ (aA.2 ⟨y,hy,rfl⟩))));omega
   have V:=gj (ze t l ((m,kb),R));have i:=gj u;have ba:=x.size;have B:Q8 (G (Q w)) w w2:=x.grown aE x.size (fun j e=>by cases e;exact aq _);have W:=gj d;clear C u hx av a1 d a2;unfold nW at a0;by_cases ht:m=t
   .subst ht;have D:gy (iq m (l++[((m,kb),R)])=iq m l+1):=gj (by rw[V.o,aw rfl]);go_wp2;have b:Q8 (G (Q w2)) w2 (Ro w2 (Q1 #[I Y m,Q7 ⟨Rm kb⟩] 103)):=(gJ w2).alloc gH _;have s:=i.o.frame (b.block _ i.o.lt.1) (b.block _ i.o.lt.2);have F:=s.left;have M:=W.o.left;simp only[aB,ab,ao,aI]at F M;exact⟨⟨_,s,by rw[D.o];rfl,B.trans (b.mono B.size)⟩,by omega⟩
   .have D:gy (iq t (l++[((m,kb),R)])=iq t l):=gj (by rw[V.o,af ht];rfl);go_wp2;have b:Q8 (G (Q w2)) w2 (Ro w2 (Q1 #[I Y m,Q7 ⟨Rm kb⟩] 103)):=(gJ w2).alloc gH _;have s:=i.o.frame (b.block _ i.o.lt.1) (b.block _ i.o.lt.2);have F:=s.left;have M:=W.o.left;simp only[aB,ab,ao,aI]at F M;exact⟨⟨_,s,by rw[D.o],B.trans (b.mono B.size)⟩,by omega⟩
def p4(l:List E):List E:=l.filter fun x=>x.1.1==1
theorem Dx(k:gw)(l:List E):ku (1,k) (p4 l)=ku (1,k) l:=by
 unfold ku p4;rw[List.find?_filter];congr 2;funext x;cases h:((1,k)==x.1) with
 | true=>have e:(1,k)=x.1:=aT.1 h;rw[<-e];rfl
 | false=>simp
theorem zJ(A:Nat)(l:List E):∀n,mh A (p4 l) n=mh A l n
 | 0=>Dx _ _
 | n+1=>by unfold mh;rw[Dx,zJ A l n]
theorem Nu{k:K}(h:∀x∈S,oT x.1 k=true):nf k v S=S++[(k,v)]:=by unfold nf;rw[fH.2 h,fa.2 (fun x b=>by rw[mY (h x b)];decide)]
theorem mf.next{i:Int}{a b c d e:UInt8}(y:gM l)(hk:k<O l)(o:l[k]=((1,[a,b,c,d,e]),v))(h:mf A (p4 (l.take k)) i value)(B:A<4294967296)(q:e.toNat<=32)(j:[a,b,c,d,e]=pj (j5 a b c d) e.toNat)(_hN:j5 a b c d<4294967296):
  mf A (p4 (l.take (k+1))) (if oe A e.toNat=j5 a b c d/\i<e.toNat then(e.toNat:Int)else i) (if oe A e.toNat=j5 a b c d/\i<e.toNat then v else value):=by
 have m:∀x∈p4 (l.take k),oT x.1 l[k].1=true:=by
  intro x o;have C:l.take (k+1)=l.take k++[l[k]]:=aC hk;have r:gM (l.take k++[l[k]]):=by rw[<-C];exact y.sublist (List.take_sublist _ _)
  exact(dR.1 r).2.2 x (cF.1 o).1 _ (by simp)
 have D:p4 (l.take (k+1))=p4 (l.take k)++[l[k]]:=by unfold p4;rw[aC hk,xF,o];rfl
 rw[D];rw[o]at m⊢;have s:=h.step (v:=v) B q _hN (fun x u e=>by have:=m x u;rw[e,<-j]at this;exact sK this rfl);rw[<-j,Nu m]at s;exact s
def yq(w:Q0)(A:Nat)(l:List E)(bv vv i:Q4)(wr:Q0):Prop:=
 ∃k,k<=O l/\i=I Y (k:Int)/\∃(b:Int) (value:gw),bv=I Y b/\vv=Q7 ⟨Rm value⟩/\mf A (p4 (l.take k)) b value/\∃q,wr=w.drewN q
theorem mf.bounds{d:Int}(h:mf A S d value):-1<=d/\d<=32/\(d<0->value=[]):=by
 obtain⟨-,-,⟨rfl,rfl,-⟩|⟨b,rfl,i,-⟩⟩:=h
 .exact⟨by omega,by omega,fun _=>rfl⟩
 .exact⟨by omega,by omega,fun h=>by omega⟩
theorem yq.done{b:Int}(h:mf A (p4 l) b value)(i:A<4294967296):qj (mh A l 32)=.tuple #[Q7 ⟨Rm value⟩,.bool (decide (0<=b))]:=by
 have j:=h.bounds;rw[<-zJ,G7 h i 32 (by omega) gH];by_cases d:b<0
 .rw[aw d,j.2.2 d,aF (by omega)];rfl
 .rw[af d,bh (by omega)];rfl
open Go.Shelf
def xi(h:Nat):Q4:=Rb 116 (Q9 #[Q5 (N ⟨h,0,J⟩)])
theorem Ng(h:Nat)(w:Q0):(nilAhead 470 116 (Q9 #[Q5 (N ⟨h,0,J⟩)]) "Room").run prog w=.ok (N false) w:=by kernel_rfl
theorem GC(h:Nat)(w:Q0):(method 470 116 (Q9 #[Q5 (N ⟨h,0,J⟩)]) "Room").run prog w=.ok (103,Q9 #[Q5 (N ⟨h,0,J⟩)]) w:=by kernel_rfl
def si(S:List E)(room:Nat->Int):Int:=match pT S room with
 | some t=>(t:Int)
 | none=>-1
theorem GO{room:Nat->Int}(j:k<3)(b:∀t:Nat,t<k->(iq (t:Int) S:Int)<=room t)(d:room k<(iq (k:Int) S:Int)):si S room=(k:Int):=by
 unfold si pT;obtain rfl|rfl|rfl:k=0\/k=1\/k=2:=by omega
 .have h:room 0<(iq 0 S:Int):=d;rw[aw h]
 .have i:(iq 0 S:Int)<=room 0:=b 0 (by omega);have h:room 1<(iq 1 S:Int):=d;rw[af (fO.2 i),aw h]
 .have i:(iq 0 S:Int)<=room 0:=b 0 (by omega);have h1:(iq 1 S:Int)<=room 1:=b 1 (by omega);have h:room 2<(iq 2 S:Int):=d;rw[af (fO.2 i),af (fO.2 h1),aw h]
theorem BA{room:Nat->Int}(b:∀t:Nat,t<3->(iq (t:Int) S:Int)<=room t):si S room=-1:=by have d:(iq 0 S:Int)<=room 0:=b 0 (by omega);have h1:(iq 1 S:Int)<=room 1:=b 1 (by omega);have i:(iq 2 S:Int)<=room 2:=b 2 (by omega);unfold si pT;rw[af (fO.2 d),af (fO.2 h1),af (fO.2 i)]
theorem _root_.Go.RowKit.Below.UN{a:Q0}(h:Q8 (G (Q w)) w a)(k:Q8 (G (Q a)) a b):Q8 (G (Q w)) w b:=h.trans (k.mono h.size)
theorem jt.Qg{off:Nat}(h:jt w q off r S)(b:Q8 (G (Q w)) w w'):jt w' q off r S:=h.below b
theorem GP(q off r h:Nat)(x:HV)(S:List E)(w:Q0)(he:jt w q off r S)(R:iQ w h x)(hl:O S<=1000000000):
  Rg prog 106 #[Q5 (N ⟨q,off,J⟩),xi h] w fun e w'=>e=.returned (I Y (si S x.room))/\Q8 (G (Q w)) w w':=by
 have Z:=gj he;have U:=gj R;clear he R;have hn:=Ng h;have hm:=GC h;unfold xi;go_enter func106,ntmps106;go_wp2;go_loopw [6] (fun i wr=>∃k:Nat,k<=3/\i=I Y k/\(∀t,t<k->(iq t S:Int)<=x.room t)/\Q8 (G (Q w)) w wr) (fun i _=>3-(intOf i).toNat)
 case atStart=>exact⟨0,by omega,rfl,(fun t ht=>by omega),kz⟩
 case round=>
  obtain⟨k,hk,rfl,d,l⟩:=hrel;by_cases h3:k<3
  .have V:(k:Int)<3:=by omega
   have m:=gj d;clear d;have s:x.room k=if 0<=(k:Int)/\(k:Int)<3 then x.room (k:Int).toNat else 0:=by rw[aw ⟨by omega,V⟩];rfl
   have W:=gj s;obtain⟨C,u⟩:∃C,C=x.room k:=⟨_,rfl⟩;obtain⟨D,hcv⟩:∃D,D=iq (k:Int) S:=⟨_,rfl⟩;have F:=gj u;have M:=gj hcv;clear s u hcv;go_wp2_with fail;refine(KR q off r S (k:Int) wr (Z.o.Qg l) hl).mono ?_;rintro e w1 ⟨rfl,j⟩;rw[<-M.o];go_wp2_with fail;refine(G6 h x (k:Int) w1 (U.o.iI ((l.UN j).block h U.o.lt))).mono ?_;rintro e w2 ⟨rfl,y⟩;rw[<-W.o,<-F.o];have B:Q8 (G (Q w)) w w2:=(l.UN j).trans (y.mono (l.UN j).size);clear j y;by_cases b:C<(D:Int)
   .go_wp2;go_ret;refine⟨?_,B⟩;have e:si S x.room=(k:Int):=by rw[F.o,M.o]at b;exact GO h3 m.o b
    rw[e];rfl
   .go_wp2;go_roundw
    case rel=>
     refine⟨k+1,by omega,by go_num,fun t ht=>?_,B⟩;by_cases e:t=k
     .subst e;rw[F.o,M.o]at b
      first|exact b|exact fO.1 b
     .exact m.o t (by omega)
    case measure=>simp[intOf];omega
  .obtain rfl:k=3:=by omega
   have e:si S x.room=-1:=BA d;have X:=gj e;clear e d;go_wp2;go_ret;exact⟨by rw[X.o];rfl,l⟩
attribute [local go_sem] Oper.semAt_some
theorem Nf(h:Nat)(w:Q0):(nilAhead 470 116 (Q9 #[Q5 (N ⟨h,0,J⟩)]) "Dump").run prog w=.ok (N false) w:=by kernel_rfl
theorem GB(h:Nat)(w:Q0):(method 470 116 (Q9 #[Q5 (N ⟨h,0,J⟩)]) "Dump").run prog w=.ok (243,Q9 #[Q5 (N ⟨h,0,J⟩)]) w:=by kernel_rfl
theorem Nd(h:Nat)(w:Q0):(nilAhead 470 116 (Q9 #[Q5 (N ⟨h,0,J⟩)]) "Drop").run prog w=.ok (N false) w:=by kernel_rfl
theorem GA(h:Nat)(w:Q0):(method 470 116 (Q9 #[Q5 (N ⟨h,0,J⟩)]) "Drop").run prog w=.ok (242,Q9 #[Q5 (N ⟨h,0,J⟩)]) w:=by kernel_rfl
theorem OM(h:Nat)(w:Q0):(nilAhead 470 116 (Q9 #[Q5 (N ⟨h,0,J⟩)]) "Put").run prog w=.ok (N false) w:=by kernel_rfl
theorem I4(h:Nat)(w:Q0):(method 470 116 (Q9 #[Q5 (N ⟨h,0,J⟩)]) "Put").run prog w=.ok (60,Q9 #[Q5 (N ⟨h,0,J⟩)]) w:=by kernel_rfl
def jv(l:List E):List E:=l.foldl (fun S x=>nf x.1 x.2 S) []
theorem Bp(l:List E)(x:E):jv (l++[x])=nf x.1 x.2 (jv l):=by simp[jv]
structure qa(w:Q0)(base h:Nat)(x:HV)(d:jz)(wr:Q0):Prop where
 at_:∃lv,xj wr base h {x with left:=d.left,ir:=d.ir,iF:=lv} d/\(∀i,Rl lv=N i->Rl x.iF=N i\/G (Q w)<=i)
 ext:gR (fun i=>i=h\/i=x.r\/Rl x.iF=N i) w wr
def Aside(r:Nat)(j:Nat)(o:Obj):Prop:=(∀C b,o≠Q1 C 9 b)/\(∀C b,o≠Q1 C 125 b)/\(∀es cl,o=.map es cl->j≠r)
theorem qa.start(b:xj w base h x d):qa w base h x d w:=by
 refine⟨⟨x.iF,?_,fun i e=>.inl e⟩,gR.refl _ _⟩;have e:({x with left:=d.left,ir:=d.ir,iF:=x.iF} : HV)=x:=by rw[<-b.left,<-b.ir]
 rw[e];exact b
theorem xj.below(i:xj w base h x d)(j:Q8 (G (Q w)) w w'):xj w' base h x d:=
 ⟨i.row.iI (j.block _ i.row.lt),i.left,i.ir,i.room,i.jh.iI (j.block _ i.jh.lt),i.own.below j,i.qN.frame fun b _ l=>j.block b l,i.lo,i.lb⟩
theorem qa.below(i:qa w base h x d wr)(b:Q8 (G (Q wr)) wr w'):qa w base h x d w':=by obtain⟨⟨lv,h1,j⟩,l⟩:=i;exact⟨⟨lv,h1.below b,j⟩,l.trans (gR.gO b)⟩
theorem qa.step{d':jz}{lv:Q4}(m:∀i,Rl lv=N i->Rl x.iF=N i\/G (Q w)<=i)(h1:xj wr base h {x with left:=d.left,ir:=d.ir,iF:=lv} d)(q:gR (fun i=>i=h\/i=x.r\/Rl x.iF=N i) w wr){e:Ending}(D:Hu base h {x with left:=d.left,ir:=d.ir,iF:=lv} d' wr e w'):qa w base h x d' w'/\(∀(j:Nat) (o:Obj),wr.heap[j]?=N o->Aside x.r j o->w'.heap[j]?=N o)/\G (Q wr)<=G (Q w'):=by
 obtain⟨-,s,E,l,hl⟩:=D;refine⟨⟨⟨s,E,fun i e=>?_⟩,q.j8 l fun i F=>?_⟩,fun j o b M=>?_,l.size⟩
 .rcases hl i e with e|e
  .exact m i e
  .exact .inr (au q.size e)
 .rcases F with e|e|e
  .exact .inl (.inl e)
  .exact .inl (.inr (.inl e))
  .exact(m i e).imp (fun e=>.inr (.inr e)) id
 .refine(l.block j (gm b) fun R=>?_).trans b;obtain⟨a1,a2,a3⟩:=M;rcases R with e|e|e
  .have u:wr.heap[h]?=_:=h1.row;rw[<-e,b]at u;exact a2 _ _ (Option.some.inj u)
  .obtain⟨-,L,⟨es,cl,hm,-⟩,-⟩:=h1.jh;have y:j=x.r:=e;rw[show({x with left:=d.left,ir:=d.ir,iF:=lv} : HV).r=x.r from rfl,<-y,b]at hm;exact a3 _ _ (Option.some.inj hm) y
  .obtain⟨C,S,B⟩:=h1.qN j e;rw[b]at B;exact a1 _ _ (Option.some.inj B)
theorem nZ{C:Array Q4}{t:TypeId}{d:Nat×Nat}(h1:t≠9)(i:t≠125):Aside r j (Q1 C t d):=
 ⟨fun l b e=>h1 (by cases e;rfl),fun l b e=>i (by cases e;rfl),fun es cl e=>by cases e⟩
theorem iE.aside{b:Nat}(h:iE w r S)(d:r≠b)(hk:∀(j:Nat) (o:Obj),w.heap[j]?=N o->Aside b j o->w'.heap[j]?=N o):iE w' r S:=by have i:=h;obtain⟨-,L,⟨es,cl,hm,-⟩,-⟩:=i;exact h.iI ((hk r _ hm ⟨(fun _ _ e=>by cases e),(fun _ _ e=>by cases e),fun _ _ _=>d⟩).trans hm.symm)
theorem pI.aside{m:Nat}{v:Q4}{l:List K}(h:pI w v l)(hk:∀(j:Nat) (o:Obj),w.heap[j]?=N o->Aside m j o->w'.heap[j]?=N o):pI w' v l:=by
 obtain⟨h1,d⟩:=h;refine⟨h1.frame fun b q _=>?_,fun g r=>?_⟩
 .obtain⟨cs,i,h⟩:=d b q;rw[h,hk b _ h (nZ (by decide) (by decide))]
 .obtain⟨cs,i,h⟩:=d g r;exact⟨cs,i,hk g _ h (nZ (by decide) (by decide))⟩
structure pG(w:Q0)(h D:Nat)(S0:List E)(wr:Q0):Prop where
 jh:iE wr (G (Q w)+1) S0
 boxH:Boxed wr (G (Q w)+2) 162 (.map (N (G (Q w)+1)))
 boxP:Boxed wr (G (Q w)) 169 (Rb 116 (Q9 #[Q5 (N ⟨h,0,J⟩)]))
 defer:wr.heap[D]?=N (.deferred (N []))
theorem pG.below(hk:pG w h D S0 wr)(b:Q8 (G (Q wr)) wr w'):pG w h D S0 w':=
 ⟨hk.jh.iI (b.block _ hk.jh.lt),(b.block _ hk.boxH.lt).trans hk.boxH,(b.block _ hk.boxP.lt).trans hk.boxP,(b.block _ (gm hk.defer)).trans hk.defer⟩
theorem pG.aside(hk:pG w h D S0 wr)(b:r<G (Q w))(ha:∀(j:Nat) (o:Obj),wr.heap[j]?=N o->Aside r j o->w'.heap[j]?=N o):pG w h D S0 w':=
 ⟨hk.jh.aside (by omega) ha,ha _ _ hk.boxH (nZ (by decide) (by decide)),ha _ _ hk.boxP (nZ (by decide) (by decide)),ha _ _ hk.defer ⟨(fun _ _ e=>by cases e),(fun _ _ e=>by cases e),(fun _ _ e=>by cases e)⟩⟩
theorem jt.ext{P:Nat->Prop}{off:Nat}(h:jt w q off r S)(b:gR P w w')(hq:¬P q)(d:¬P r):jt w' q off r S:=
 ⟨b.cell hq h.cell,h.jh.iI (b.block r h.jh.lt d)⟩
theorem zF(k:K)(v:gw)(S:List E)(b:gM S):(nf k v S).length<=O S+1:=by
 have:=uS (m:=(k,v)::S) (kG k v b).nodup fun x d=>by
  rcases(mF k v S x).1 d with rfl|⟨h,-⟩
  .exact cy
  .exact aR _ h
 simpa using this
theorem Ez(k:K)(S:List E):(om k S).length<=O S:=cU _ _
theorem jz.L6(o:wF)(b:gM d.S):gM (d.step o).S/\(d.step o).S.length<=O d.S+1/\(d.step o).iF.length<=O d.iF+2:=by
 obtain⟨k,v⟩:=o;cases v with
 | none=>
  unfold jz.step jz.drop;simp only;split
  .exact⟨b,dS _,fE _ _⟩
  .exact⟨pD k b,ft (Ez k d.S),by simp⟩
 | some v=>
  unfold jz.step jz.put;simp only;split
  .exact⟨b,dS _,fE _ _⟩
  .split
   .exact⟨kG k v b,zF k v d.S b,by simp⟩
   .exact⟨b,dS _,by simp⟩
theorem jz.xW:∀{d:jz} (os:List wF),gM d.S->gM (d.run os).S/\(d.run os).S.length<=O d.S+O os/\(d.run os).iF.length<=O d.iF+2*O os
 | d,[],h=>⟨h,aq _,aq _⟩
 | d,o::os,h=>by obtain⟨h1,b,i⟩:=jz.L6 o h;obtain⟨g1,g2,j⟩:=jz.xW (d:=d.step o) os h1;have e:d.run (o::os)=(d.step o).run os:=rfl;rw[e,ao];exact⟨g1,by omega,by omega⟩
def lH(S T:List E)(k:Nat):List wF:=oX (oh (S.take k) T)
theorem Bn{α:Type}{o:Option α}(h:o.isSome=true):o.isNone=false:=by cases o<;>simp_all
theorem CD{α:Type}{o:Option α}(h:o.isSome=false):o.isNone=true:=by cases o<;>simp_all
theorem EA{T:List E}(hk:k<O S)(h:(ku S[k].1 T).isSome=true):lH S T (k+1)=lH S T k:=by unfold lH oh;rw[aC hk,dB,eR (by rw[Bn h];decide)];simp
theorem Is{T:List E}(hk:k<O S)(h:(ku S[k].1 T).isSome=false):lH S T (k+1)=lH S T k++[(S[k].1,J)]:=by unfold lH oh;rw[aC hk,dB,fV (by exact CD h)];simp[oX]
theorem uN(S T:List E)(k:Nat):(lH S T k).length<=O S:=by unfold lH oh oX;rw[aB];exact au (cU _ _) (by rw[ax];omega)
theorem tX(l:List E):gM (jv l):=by
 have key:∀(l:List E) (S:List E),gM S->gM (l.foldl (fun S x=>nf x.1 x.2 S) S):=by
  intro l
  induction l with
  | nil=>exact fun S h=>h
  | cons x l ih=>exact fun S h=>ih _ (kG _ _ h)
 exact key l [] gM.nil
theorem Dz(b:(l.map (·.1)).Nodup)(x:E):x∈jv l↔x∈l:=by
 have:=Bv l [] x b;have e:nj [] (nN l)=jv l:=by unfold nj nN jv;rw[List.foldl_map];rfl
 rw[e]at this;rw[this];simp
theorem DC(b:gM S)(d:l.Perm S):jv l=S:=by have i:(l.map (·.1)).Nodup:=(d.map (·.1)).nodup_iff.2 b.qM;exact gM.ext (tX l) b fun x=>by rw[Dz i,d.mem_iff]
theorem GQ{β:Type}(l:r<B)(f:β->List E):OwnFrom B (fun s W=>iE W r (f s)):=fun s X b row i j d=>
 i.iI (j.block r i.lt (fun e=>by obtain⟨h1,-⟩:=d r e.symm;omega))
theorem mP{row:Option Nat}(m:X.grownBy b row)(q:∀r,row=N r->B<=r/\∃o:Obj,X.heap[r]?=N o/\o.isCells=false){o:Obj}(d:X.heap[j]?=N o)(h:j<B\/o.isCells=true):b.heap[j]?=N o:=
 (m.block j (gm d) fun e=>by
   obtain⟨h1,o',i,l⟩:=q j e.symm;rw[d]at i;cases i;rcases h with h|h
   .omega
   .rw[h]at l;cases l).trans d
theorem qa.Bf{l:Q0}{row:Option Nat}(E:qa w base h x d X)(m:X.grownBy l row)(s:∀r,row=N r->B<=r/\∃o:Obj,X.heap[r]?=N o/\o.isCells=false)(S:G (Q w)<=B)(u:x.r<B):qa w base h x d l:=by
 obtain⟨⟨lv,h1,F⟩,M⟩:=E;have q:∀b,Rl lv=N b->b<G (Q X)->l.heap[b]?=X.heap[b]?:=fun b e U=>by obtain⟨C,V,y⟩:=h1.qN b e;rw[mP m s y (.inr rfl),y]
 refine⟨⟨lv,⟨mP m s h1.row (.inr rfl),h1.left,h1.ir,h1.room,h1.jh.iI ?_,h1.own.frame m.size q,h1.qN.frame q,h1.lo,h1.lb⟩,F⟩,M.j8 (T:=fun i=>row=N i) ⟨m.os,m.tape,m.output,m.size,fun j R D=>m.block j R fun e=>D e.symm⟩ fun i e=>.inr (by have:=(s i e).1;omega)⟩;obtain⟨-,L,⟨es,cl,hm,-⟩,-⟩:=h1.jh;exact(mP m s hm (.inl u)).trans hm.symm
theorem pG.Bf{row:Option Nat}(hk:pG w h D S0 X)(d:X.grownBy b row)(i:∀r,row=N r->B<=r/\∃o:Obj,X.heap[r]?=N o/\o.isCells=false)(l:G (Q w)+2<=B)(j:D<B):pG w h D S0 b:=by refine⟨hk.jh.iI ?_,mP d i hk.boxH (.inr rfl),mP d i hk.boxP (.inr rfl),mP d i hk.defer (.inl j)⟩;obtain⟨-,L,⟨es,cl,hm,-⟩,-⟩:=hk.jh;exact(mP d i hm (.inl (by omega))).trans hm.symm
def pq(S T pre:List E):List wF:=lH S T (O S)++nN (rY S pre)
theorem GU(S T pre:List E)(x:E):pq S T (pre++[x])=if x∈S then pq S T pre else pq S T pre++[(x.1,N x.2)]:=by
 unfold pq rY nN;rw[dB,bj,<-bJ];split
 .rename_i h;simp[h]
 .rename_i h;simp[h]
theorem Jk(S T:List E):pq S T T=lU S T:=by unfold pq lH lU;rw[aM]
theorem Jl(S T pre:List E):(pq S T pre).length<=O S+O pre:=by
 unfold pq;rw[ab];have h1:=uN S T (O S);have b:(nN (rY S pre)).length<=O pre:=by unfold nN rY;rw[aB];exact cU _ _
 omega
theorem Dl(base q off r h:Nat)(x:HV)(d:jz)(T:List E)(w:Q0)(he:jt w q off r T)(h7:xj w base h x d)(hT:O T<=100000000)(hS:O d.S<=100000000)(hL:O d.iF<=7500000000000)(fg:∀y∈d.S,O y.1.2<=im)(fi:∀y∈T,O y.1.2<=im/\O y.2<=im)(hb:base<=G (Q w))(fk:q≠h)(fl:Rl x.iF≠N q)(fn:r≠x.r):
  Rg prog 108 #[Q5 (N ⟨q,off,J⟩),xi h] w fun e w'=>e=.returned (.tuple #[])/\qa w base h x (d.run (lU d.S T)) w':=by
 have hm:=GB h;have hn:=Nf h;have hp:=@run_makeMap prog;unfold xi;refine(callsIn_wide (n:=9)).1 ?_;refine callsIn_of_wp_marks func108 rfl cK ?_ rfl
 try simp only[ntmps108,dG,ao,aI,Nat.reduceAdd,Nat.reduceSub,bd,bf,bK,cY,aQ,aV]
 gi_wp2_with fail
 refine⟨cK,(callsIn_wide.2 (It h _)).mono ?_⟩;rintro e w0 ⟨rfl,rfl⟩
 gi_wp2_with fail
 have ia:=(((Boxed.new w 169 (Rb 116 (Q9 #[Q5 (N ⟨h,0,J⟩)]))).alloc (.map #[] 0)).alloc (Q1 #[.map (N (G (Q w)+1))] 162)).alloc (Q1 #[Q5 (N ⟨h,0,J⟩)] 116);have tM:iE ((((Ro w (Q1 #[Rb 116 (Q9 #[Q5 (N ⟨h,0,J⟩)])] 169)).alloc (.map #[] 0)).alloc (Q1 #[.map (N (G (Q w)+1))] 162)).alloc (Q1 #[Q5 (N ⟨h,0,J⟩)] 116)) (G (Q w)+1) []:=by have h1:=iE.new (Ro w (Q1 #[Rb 116 (Q9 #[Q5 (N ⟨h,0,J⟩)])] 169));rw[aj]at h1;exact(h1.iI (heap_alloc_old _ _ (by simp))).iI (heap_alloc_old _ _ (by simp))
 have h8:=(Boxed.new ((Ro w (Q1 #[Rb 116 (Q9 #[Q5 (N ⟨h,0,J⟩)])] 169)).alloc (.map #[] 0)) 162 (.map (N (G (Q w)+1)))).alloc (Q1 #[Q5 (N ⟨h,0,J⟩)] 116);have h9:=Boxed.new (((Ro w (Q1 #[Rb 116 (Q9 #[Q5 (N ⟨h,0,J⟩)])] 169)).alloc (.map #[] 0)).alloc (Q1 #[.map (N (G (Q w)+1))] 162)) 116 (Q5 (N ⟨h,0,J⟩));simp only[aj,bT,Nat.reduceAdd]at h8 h9;have cc:Q8 (G (Q w)) w ((((Ro w (Q1 #[Rb 116 (Q9 #[Q5 (N ⟨h,0,J⟩)])] 169)).alloc (.map #[] 0)).alloc (Q1 #[.map (N (G (Q w)+1))] 162)).alloc (Q1 #[Q5 (N ⟨h,0,J⟩)] 116)):=((((gJ w).alloc gH _).alloc (by simp) _).alloc (by simp;omega) _).alloc (by simp;omega) _;have fo:((((Ro w (Q1 #[Rb 116 (Q9 #[Q5 (N ⟨h,0,J⟩)])] 169)).alloc (.map #[] 0)).alloc (Q1 #[.map (N (G (Q w)+1))] 162)).alloc (Q1 #[Q5 (N ⟨h,0,J⟩)] 116)).heap.size=G (Q w)+4:=by simp
 simp only[bT,Nat.reduceAdd];obtain⟨W0,d6⟩:∃W0,(((Ro w (Q1 #[Rb 116 (Q9 #[Q5 (N ⟨h,0,J⟩)])] 169)).alloc (.map #[] 0)).alloc (Q1 #[.map (N (G (Q w)+1))] 162)).alloc (Q1 #[Q5 (N ⟨h,0,J⟩)] 116)=W0:=⟨_,rfl⟩;rw[d6]at ia tM h8 h9 cc fo⊢;clear d6;have b0:=h7.row;have bk:=h7.jh;have fp:=b0.lt;have bI:=bk.lt
 refine wpIn_rangeFunc_ownH rfl (by omega) (gf:=244) (lb:=#[Q5 (N ⟨G (Q w)+3,0,J⟩)]) rfl cK (enters_of func244 (by kernel_rfl) rfl)
  (Iu (9-1) (by omega) (G (Q w)+3) h x d.S W0 (by omega) h9.cell (b0.iI (cc.block _ fp)) (bk.iI (cc.block _ bI))) (fun h k=>pe.trans h k)
  (fun W l o o' hl R hc ic=>⟨by simp,World.putObj_heap_other (by omega),(fun k m a b c hk=>(World.putObj_heap_other (fun e=>by subst e;rw[hk]at R;cases R;cases ic)).trans hk)⟩) (kz) (fun _=>rfl)
  (fun pre W=>(((iE W (G (Q w)+1) (jv pre)/\G (Q W0)<=G (Q W))/\Boxed W (G (Q w)+2) 162 (.map (N (G (Q w)+1))))/\Boxed W (G (Q w)) 169 (Rb 116 (Q9 #[Q5 (N ⟨h,0,J⟩)])))/\Q8 (G (Q w)) w W)
  (fun _ _ _=>False)
  (OwnFrom.and (OwnFrom.and (OwnFrom.and (OwnFrom.and (GQ (by omega) jv) (fun s X u row hU hg _=>au hU hg.size)) (Own.from (boxed_own _ _ _) _)) (Own.from (boxed_own _ _ _) _)) (ownFrom_below gH (by omega)))
  (fun _ _ _ _ _ hU _ _=>hU)
  ⟨⟨⟨⟨tM,aq _⟩,h8⟩,ia⟩,cc⟩
  (fun y a' W=>∃Bx,G (Q w)+3<Bx/\W.heap[Bx]?=N (Q1 #[I Y y.1.1,Q7 ⟨Rm y.1.2⟩] 103 (0,0))/\a'={tmps:=#[Q5 (N ⟨q,off,J⟩),Rb 116 (Q9 #[Q5 (N ⟨h,0,J⟩)]),Rj,Q5 (N ⟨G (Q w),0,J⟩),Q5 (N ⟨G (Q w)+2,0,J⟩),Q5 (N ⟨Bx,0,J⟩),Q7 ⟨Rm y.2⟩,Rj,Rj,Rj,Rj,Rj,Rj,Rj,Rj,.map (N (G (Q w)+1)),Rb 116 (Q9 #[Q5 (N ⟨h,0,J⟩)]),.func (.func 244) #[] #[Q5 (N ⟨G (Q w)+3,0,J⟩)],Q9 #[I Y y.1.1,Q7 ⟨Rm y.1.2⟩],Q7 ⟨Rm y.2⟩,Rj,Rj,Rj,Rj,Rj,Rj,Rj,Rj,Rj,Rj,Rj,Rj,Rj,Rj,Rj,Rj,Rj,Rj,Rj,Rj,Rj,Rj,Rj,Rj,Rj,Rj,Rj,Rj,Rj,Rj,Rj,Rj,Rj,Rj,Rj,Rj,Rj,Rj,Rj,Rj,Rj,Rj,Rj,Rj,Rj,Rj,Rj,Rj,Rj],defers:=[]})
  (fun y a' _ X u row hU hg hY=>by obtain⟨Bx,h1,Z,h3⟩:=hU;exact⟨Bx,h1,(hg.block Bx (gm Z) (fun e=>by obtain⟨-,o,R,hc⟩:=hY Bx e.symm;rw[Z]at R;cases R;cases hc)).trans Z,h3⟩)
  ?assign ?body ?done ?stop
 case assign=>
  rintro l pre y W K ⟨⟨⟨⟨h1,cq⟩,Z⟩,h3⟩,h4⟩ hK;unfold kV nd
  gi_wp2
  have am:Q8 (G (Q W)) W (Ro W (Q1 #[I Y y.1.1,Q7 ⟨Rm y.1.2⟩] 103)):=(gJ W).alloc gH _;exact hK _ _ ((KeepsOthers.alloc _ _).from _) (pe.iN am (by have:=h4.size;omega)) ⟨⟨⟨⟨h1.iI (am.block _ h1.lt),by simp;omega⟩,Z.alloc _⟩,h3.alloc _⟩,h4.alloc h4.size _⟩ ⟨G (Q W),by omega,gB W _,rfl⟩
 case body=>
  rintro l pre ⟨⟨kt,kb⟩,vb⟩ a' W hl ⟨rr,fx⟩ ⟨⟨⟨⟨h1,cq⟩,Z⟩,h3⟩,h4⟩ ⟨Bx,fz,hV,rfl⟩ bl;dsimp only at hV⊢;have c0:=Z.cell;have x0:=gr 0 hV;have x1:=gr 1 hV;obtain⟨W1,ii,d7,bA,hr⟩:=iE.put (w:=W) h1 (mt:=162) underlying162 (kt,kb) vb;have fR:(Instr.mapUpdate 162 (.map (N (G (Q w)+1))) (kV (kt,kb)) (nW vb)).run prog W=.ok () W1:=ii 0;simp only[kV,nd,nW]at fR;have f0:=gj d7;have cr:=gj h1;clear ii d7 h1
  gi_wp2
  have d8:∀(j:Nat) (C:Array Q4) (t:TypeId) (hW:Nat×Nat),W.heap[j]?=N (Q1 C t hW)->W1.heap[j]?=N (Q1 C t hW):=fun j C t hW ib=>(bA.block j (gm ib) (fun e=>cr.o.mZ ib (by cases e;rfl))).trans ib;have hs:=cr.o.lt;refine⟨⟨bA.size,fun k o hk R _=>(bA.block k (gm R) (fun e=>by cases e;omega)).trans R⟩,pe.Nh bA (by have:=h4.size;omega) (by omega) (fun m a b c e=>?_),⟨⟨⟨by rw[Bp];exact f0.o,au cq bA.size⟩,d8 _ _ _ _ Z⟩,d8 _ _ _ _ h3⟩,h4.grown bA h4.size (fun j e=>by cases e;omega)⟩;obtain⟨-,L,⟨es,cl,f1,-⟩,-⟩:=cr.o;rw[f1]at e;cases e
 case done=>
  rintro D ys W i0 d9 ⟨⟨⟨⟨h1,cq⟩,Z⟩,h3⟩,h4⟩ hK;rw[DC bk.sorted d9]at h1;have f2:=h1.lt;have ht:=h4.size;have ba:Q8 (G (Q W)) W (Ro W (Q1 #[.map (N (G (Q w)+1))] 162)):=(gJ W).alloc gH _;have eb:=gj (rR (G (Q W)) (G (Q w)+1) d.S (Ro W (Q1 #[.map (N (G (Q w)+1))] 162)) (by simp) (gr 0 (gB W (Q1 #[.map (N (G (Q w)+1))] 162))) (h1.iI (ba.block _ f2)) (by omega));have c0:=Z.cell
  gi_wp2_with (first
   | (refine⟨cK,(callsIn_wide.2 (wP (G (Q w)+1) W)).mono ?_⟩;rintro e w0 ⟨rfl,rfl⟩)
   | (refine⟨cK,(callsIn_wide.2 eb.o).mono ?_⟩;rintro e w1 ⟨v,rfl,cd,ct⟩;obtain⟨sa,a8,rfl,-,-⟩:=cd.gU;rw[aB]at *))
  have cu:Q8 (G (Q w)) w w1:=(h4.UN ba).trans (ct.mono (h4.UN ba).size);have f4:=cu.size;have hmx:O d.S<=a8:=by obtain⟨a',c',e,h,-⟩:=cd.gU;obtain⟨-,-,rfl⟩:=Value.slice.inj e;simpa using h
  have am:Q8 (G (Q W)) W w1:=ba.trans (ct.mono (by simp));have b2:=gj ((qa.start (w:=w) h7).below cu);have b3:=gj ((pG.mk (w:=w) (h:=h) (D:=D) (S0:=d.S) h1 Z h3 hK).below am);have f5:=gj cd;have cv:=gj bk.sorted;have ec:q≠x.r:=fun e=>by have:=pL he.cell bk;exact this e
  have ed:r≠h:=fun e=>he.jh.mZ b0 e.symm;have eg:Rl x.iF≠N r:=h7.qN.uV he.jh;have ce:gy (¬(q=h\/q=x.r\/Rl x.iF=N q)):=gj (fun e=>by rcases e with e|e|e;exact fk e;exact ec e;exact fl e);have bH:gy (¬(r=h\/r=x.r\/Rl x.iF=N r)):=gj (fun e=>by rcases e with e|e|e;exact ed e;exact fn e;exact eg e);have HE:=gj he;have hu:=Nd h;have hv:=GA h;clear cd h1 Z h3 hK c0 eb ct am h9 h8 tM ia ec ed eg d9 ba
  gi_loopw [28] (fun i wr=>∃k:Nat,k<=O d.S/\i=I Y (k:Int)/\qa w base h x (d.run (lH d.S T k)) wr/\pG w h D d.S wr/\pI wr (Q6 sa (O d.S) a8) (d.S.map (·.1))) (fun i _=>O d.S-(intOf i).toNat)
  case atStart=>exact⟨0,aJ _,rfl,b2.o,b3.o,f5.o⟩
  case round=>
   obtain⟨k,hk,rfl,bL,cg,ci⟩:=hrel;by_cases bl:k<O d.S
   .have g1:(k:Int)<O d.S:=by omega
    obtain⟨hw,g0,e,-,io⟩:=ci.gU;obtain⟨rfl,-,rfl⟩:=Value.slice.inj e;obtain⟨cB,ko,rfl,c0,c1⟩:=io k (by simpa using bl);obtain⟨y,bB⟩:∃y,y=d.S[k]:=⟨_,rfl⟩;rw[eA,<-bB]at c0 c1;have ej:y∈d.S:=by rw[bB];exact bq bl
    have el:=fg y ej;obtain⟨⟨KT,KB⟩,VB⟩:=y;simp only at c0 c1 el;have f7:gy ((ku (KT,KB) T).isSome=true->lH d.S T (k+1)=lH d.S T k):=gj (fun h=>EA bl (by rw[<-bB];exact h));have e5:gy ((ku (KT,KB) T).isSome=false->lH d.S T (k+1)=lH d.S T k++[((KT,KB),J)]):=gj (fun h=>by have:=Is bl (T:=T) (by rw[<-bB];exact h);rw[<-bB]at this;exact this);have bD:=gj (HE.o.ext bL.ext ce.o bH.o);have em:=bD.o.cell;have f8:=gK em;have f9:=gK c0;have en:Q8 (G (Q wr)) wr (Ro wr (Q1 #[I Y KT,Q7 ⟨Rm KB⟩] 103)):=(gJ wr).alloc gH _;have a3:=gj en;have bM:=gj bL;have bb:=gj cg;have ga:=gj ci;clear bL cg ci hk bB ej en io
    gi_wp2
    obtain⟨wa,c2⟩:∃wa,wa=Ro wr (Q1 #[I Y KT,Q7 ⟨Rm KB⟩] 103):=⟨_,rfl⟩;rw[<-c2]at a3⊢;have cm:gy (wa.heap[G (Q wr)]?=N (Q1 #[I Y KT,Q7 ⟨Rm KB⟩] 103 (0,0))):=gj (by rw[c2];exact gB _ _);have cn:=gj (bD.o.below a3.o);have hx:G (Q wr)<G (Q wa):=gm cm.o;clear c2 c0 c1 em f8 f9;have eo:=cn.o.cell;have e6:=gK eo;have d0:=gr 0 cm.o;have d1:=gr 1 cm.o;have a0:=iE.mX (w:=wa.drew) (cn.o.jh.iI rfl) (mt:=162) underlying162 (uy _) (KT,KB);simp only[kV,nd,nW]at a0;obtain⟨hZ,bo⟩:∃hZ,hZ=(ku (KT,KB) T).isSome:=⟨_,rfl⟩;rw[<-bo]at a0;have bE:=gj bo;clear bo;have br:=fun o=>iE.mX (w:=(Ro wa o).drew) (cn.o.jh.iI (heap_alloc_old _ _ cn.o.jh.lt)) (mt:=162) underlying162 (uy _) (KT,KB);simp only[kV,nd,nW]at br;rw[<-bE.o]at br
    gi_region
    obtain⟨w9,co⟩:∃w9,w9=(Ro wa (Q1 #[Q7 ⟨((ku (KT,KB) T).getD []).toArray⟩] 226)).drew:=⟨_,rfl⟩;rw[<-co];have c3:gy (Q8 (G (Q wr)) wr w9):=gj (by rw[co];exact(a3.o.alloc a3.o.size _).drew);have c4:gy (w9.heap[G (Q wr)]?=N (Q1 #[I Y KT,Q7 ⟨Rm KB⟩] 103 (0,0))):=gj (by rw[co];exact gP _ _ cm.o);have c5:=gj (bM.o.below c3.o);have b6:=gj (bb.o.below c3.o);have c6:gy (pI w9 (Q6 (N ⟨cB,ko,J⟩) (O d.S) a8) (d.S.map (·.1))):=gj ((ga.o).kept (x:=G (Q w)) (y:=G (Q w)) (z:=G (Q w)) (jq.iN c3.o bb.o.boxP.lt bb.o.boxP.lt bb.o.boxP.lt));clear co a0 br d0 d1 eo e6;have ip:=b6.o.boxP.cell;have d0:=gr 0 c4.o;have d1:=gr 1 c4.o;have hy:=gm c4.o;cases hZ with
    | true=>
     have c7:=gj (f7.o bE.o.symm)
     gi_wp2
     have a4:∃k':Nat,k'<=O d.S/\I Y ((k:Int)+1)=I Y (k':Int)/\qa w base h x (d.run (lH d.S T k')) w9/\pG w h D d.S w9/\pI w9 (Q6 (N ⟨cB,ko,J⟩) (O d.S) a8) (d.S.map (·.1)):=⟨k+1,by omega,rfl,by rw[c7.o];exact c5.o,b6.o,c6.o⟩;simp only[aB];refine⟨?_,?_⟩
     .first
       | exact a4
       | ((repeat apply Exists.intro);exact⟨a4,rfl⟩)
     .simp[intOf];omega
    | false=>
     have c7:=gj (e5.o bE.o.symm);obtain⟨⟨lv,a5,av⟩,M⟩:=c5.o;obtain⟨gb,gc,ge⟩:=jz.xW (d:=d) (lH d.S T k) cv.o;have gg:=uN d.S T k;have er:=gj (fun W (am:Q8 (G (Q w9)) w9 W)=>Iq base h {x with left:=(d.run (lH d.S T k)).left,ir:=(d.run (lH d.S T k)).ir,iF:=lv} (d.run (lH d.S T k)) KT KB W (a5.below am) (by have:=M.size;have:=am.size;omega) (by omega) el)
     gi_wp2_with fail
     refine⟨cK,(callsIn_wide.2 (er.o w9 (kz))).mono ?_⟩;rintro e w' hX;obtain⟨a1,aa,a6⟩:=qa.step av a5 M hX;obtain⟨rfl,-⟩:=hX;have HG:=gj a1;have bt:=gj (b6.o.aside bI aa);have e7:=gj (c6.o.aside aa);clear a1 aa a6 a5 av M ip d0 d1 er
     gi_wp2
     have a4:∃k':Nat,k'<=O d.S/\I Y ((k:Int)+1)=I Y (k':Int)/\qa w base h x (d.run (lH d.S T k')) w'/\pG w h D d.S w'/\pI w' (Q6 (N ⟨cB,ko,J⟩) (O d.S) a8) (d.S.map (·.1)):=⟨k+1,by omega,rfl,by rw[c7.o,jz.xY];exact HG.o,bt.o,e7.o⟩;simp only[aB];refine⟨?_,?_⟩
     .first
       | exact a4
       | ((repeat apply Exists.intro);exact⟨a4,rfl⟩)
     .simp[intOf];omega
   .obtain rfl:k=O d.S:=by omega
    have g1:¬(O d.S:Int)<O d.S:=by omega
    have bM:=gj bL;have bb:=gj cg;clear bL cg ci hk bl
    gi_wp2_with fail
    refine⟨cK,(callsIn_wide.2 (tV q off _)).mono ?_⟩;rintro e w2 ⟨rfl,rfl⟩
    gi_wp2_with fail
    have gl:O T<=1000000000:=by omega
    have hz:=bM.o.ext.size;have hA:=bb.o.boxH.lt;have g7:=gm bb.o.defer;have a3:gy (Q8 (G (Q wr)) wr (Ro wr (Q1 #[Q5 (N ⟨q,off,J⟩)] 219))):=gj ((gJ wr).alloc gH _);have bD:=gj (HE.o.ext bM.o.ext ce.o bH.o);have eD:gy ((Ro wr (Q1 #[Q5 (N ⟨q,off,J⟩)] 219)).cell? ⟨G (Q wr),0,J⟩=N (Q5 (N ⟨q,off,J⟩))):=gj (gr 0 (gB wr (Q1 #[Q5 (N ⟨q,off,J⟩)] 219)));have c9:gy ((Ro wr (Q1 #[Q5 (N ⟨q,off,J⟩)] 219)).heap[G (Q wr)]?=N (Q1 #[Q5 (N ⟨q,off,J⟩)] 219 (0,0))):=gj (gB wr _);obtain⟨W1,da⟩:∃W1,W1=Ro wr (Q1 #[Q5 (N ⟨q,off,J⟩)] 219):=⟨_,rfl⟩;have f4:G (Q W1)=G (Q wr)+1:=by rw[da];simp
    rw[<-da]at a3 eD c9⊢;clear da;have gn:=gj (bD.o.below a3.o);have b2:=gj (bM.o.below a3.o);have b3:=gj (bb.o.below a3.o);have g8:=bD.o.lt;have g9:=bD.o.jh.lt;have h0:pq d.S T []=lH d.S T (O d.S):=by unfold pq rY nN;simp
    refine wpIn_rangeFunc_ownH rfl (by omega) (gf:=135) (lb:=#[Q5 (N ⟨G (Q wr),0,J⟩)]) rfl cK (enters_of func135 (by kernel_rfl) rfl)
     (pN (Subtype.val:{x:E // x∈T}->E) T.attach (9-1) (G (Q wr)) q off r T (dx T) W1 (by omega) eD.o gn.o gl) (fun h k=>jq.trans h k)
     (fun W l o o' hl R hc ic=>⟨by simp,fun k hk=>World.putObj_heap_other (by rcases hk with rfl|rfl|rfl<;>omega),fun k cs hW hk=>(World.putObj_heap_other (fun e=>by subst e;rw[hk]at R;cases R;cases hc)).trans hk⟩) (kz) (fun _=>rfl)
     (fun(pre:List {x:E // x∈T}) W=>qa w base h x (d.run (pq d.S T (pre.map Subtype.val))) W/\pG w h D d.S W/\G (Q W1)<=G (Q W)/\W.heap[G (Q wr)]?=N (Q1 #[Q5 (N ⟨q,off,J⟩)] 219 (0,0)))
     (fun _ _ _=>False)
     (fun s X u row hU hg hY=>⟨hU.1.Bf hg hY (by omega) (by omega),hU.2.1.Bf hg hY (by omega) (by omega),au hU.2.2.1 hg.size,mP hg hY hU.2.2.2 (.inr rfl)⟩)
     (fun _ _ _ _ _ hU _ _=>hU)
     ⟨by rw[dM,h0];exact b2.o,b3.o,aq _,c9.o⟩
     (fun y a' V=>∃Bx,G (Q w)+3<Bx/\V.heap[Bx]?=N (Q1 #[I Y y.1.1.1,Q7 ⟨Rm y.1.1.2⟩] 103 (0,0))/\a'={tmps:=#[Q5 (N ⟨q,off,J⟩),Rb 116 (Q9 #[Q5 (N ⟨h,0,J⟩)]),Rj,Q5 (N ⟨G (Q w),0,J⟩),Q5 (N ⟨G (Q w)+2,0,J⟩),Rj,Rj,Rj,u8,u9,u10,Q5 (N ⟨Bx,0,J⟩),Q7 ⟨Rm y.1.2⟩,Rj,Rj,.map (N (G (Q w)+1)),Rb 116 (Q9 #[Q5 (N ⟨h,0,J⟩)]),.func (.func 244) #[] #[Q5 (N ⟨G (Q w)+3,0,J⟩)],Rj,Rj,Rj,Rj,Rj,Rj,.map (N (G (Q w)+1)),.func (.func 177) #[] #[Q5 (N ⟨G (Q W),0,J⟩)],Q6 sa (O d.S) a8,I Y (O d.S:Int),I Y (O d.S:Int),.bool false,u30,u31,u32,u33,u34,u35,u36,u37,u38,u39,u40,u41,u42,u43,u44,u45,u46,Q5 (N ⟨q,off,J⟩),.func (.func 135) #[] #[Q5 (N ⟨G (Q wr),0,J⟩)],Q9 #[I Y y.1.1.1,Q7 ⟨Rm y.1.1.2⟩],Q7 ⟨Rm y.1.2⟩,Rj,Rj,Rj,Rj,Rj,Rj,Rj,Rj,Rj,Rj,Rj,Rj,Rj,Rj,Rj,Rj,Rj,Rj],defers:=[]})
     (fun y a' _ X u row hU hg hY=>by obtain⟨Bx,h1,Z,h3⟩:=hU;exact⟨Bx,h1,mP hg hY Z (.inr rfl),h3⟩)
     ?assign2 ?body2 ?done2 ?stop2
    case assign2=>
     rintro l pre y V K ⟨h1,Z,h3,h4⟩ hK;unfold kV nd
     gi_wp2
     have am:Q8 (G (Q V)) V (Ro V (Q1 #[I Y y.1.1.1,Q7 ⟨Rm y.1.1.2⟩] 103)):=(gJ V).alloc gH _;exact hK _ _ ((KeepsOthers.alloc _ _).from _) (jq.iN am (by omega) (by omega) (by omega)) ⟨h1.below am,Z.below am,by simp;omega,gP V _ h4⟩ ⟨G (Q V),by omega,gB V _,rfl⟩
    case body2=>
     rintro l bv ⟨⟨⟨kt,kb⟩,vb⟩,eS⟩ a' V hl ⟨rr,fx⟩ ⟨h1,Z,h3,h4⟩ ⟨Bx,fz,hV,rfl⟩ bl;dsimp only at hV⊢;have cp:gy ((bv++[(⟨((kt,kb),vb),eS⟩:{x:E // x∈T})]).map Subtype.val=bv.map Subtype.val++[((kt,kb),vb)]):=gj (by simp);have d5:(bv.map Subtype.val).length=O bv:=aB _;obtain⟨pre,dc⟩:∃pre,pre=bv.map Subtype.val:=⟨_,rfl⟩;rw[<-dc]at h1 cp d5;clear dc;have c0:=Z.boxH.cell;have p0:=Z.boxP.cell;have x0:World.cell? V ⟨Bx,0,J⟩=N (I Y kt):=gr 0 hV;have x1:World.cell? V ⟨Bx,1,J⟩=N (Q7 ⟨Rm kb⟩):=gr 1 hV;have a0:=iE.mX (w:=V) Z.jh (mt:=162) underlying162 (uy _) (kt,kb);simp only[kV,nd,nW]at a0;obtain⟨hZ,bo⟩:∃hZ,hZ=(ku (kt,kb) d.S).isSome:=⟨_,rfl⟩;obtain⟨ov,bO⟩:∃ov,ov=(ku (kt,kb) d.S).getD []:=⟨_,rfl⟩;rw[<-bo,<-bO]at a0;have bE:=gj bo;have go:=gj bO;have H1:=gj h1;have H2:=gj Z;have HX:=gj hV;have hd:=gm hV;have hB:=Z.boxP.lt;clear bo bO h1 Z hV;have hC:=OM h;have hD:=I4 h;have dk:=gj (GU d.S T pre ((kt,kb),vb));have hE:O pre<=100000000:=by omega
     have b9:gy (((kt,kb),vb)∈d.S↔ku (kt,kb) d.S=N vb):=gj (se cv.o.qM (kt,kb) vb).symm;have eT:O kb<=im/\O vb<=im:=fi ((kt,kb),vb) eS;obtain⟨gb,gc,ge⟩:=jz.xW (d:=d) (pq d.S T pre) cv.o;have gg:=Jl d.S T pre;obtain⟨⟨lv,a5,av⟩,M⟩:=H1.o;have F:gy (Q8 (G (Q V)) V (Ro V (Q1 #[Q7 ⟨Rm ov⟩] 226))):=gj ((gJ V).alloc gH _);have eV:=gj (fun U (e0:Q8 (G (Q V)) V U)=>KV base h {x with left:=(d.run (pq d.S T pre)).left,ir:=(d.run (pq d.S T pre)).ir,iF:=lv} (d.run (pq d.S T pre)) kt kb vb U (a5.below e0) (by have:=M.size;have:=e0.size;omega) (by omega) eT.1 eT.2 (by omega));have bP:gy ((∃o,V.heap[G (Q wr)]?=N o/\Aside x.r (G (Q wr)) o)/\q<G (Q w)/\r<G (Q w)/\x.r<G (Q w)):=gj ⟨⟨_,h4,nZ (by decide) (by decide)⟩,HE.o.lt,HE.o.jh.lt,bI⟩;cases hZ with
     | false=>
      have ca:gy (¬((kt,kb),vb)∈d.S):=gj fun hm=>by have h1:=b9.o.1 hm;have Z:=bE.o;rw[h1]at Z;cases Z
      gi_wp2_with fail
      refine⟨cK,(callsIn_wide.2 (eV.o _ F.o)).mono ?_⟩;rintro e w' hX;obtain⟨a1,aa,a6⟩:=qa.step av (a5.below F.o) (M.trans (gR.gO F.o)) hX;obtain⟨rfl,gp,-,bR,-⟩:=hX;have aE:∀k,k=G (Q wr)\/k=q\/k=r->w'.heap[k]?=V.heap[k]?:=fun k hk=>by
       obtain⟨⟨o,R,dl⟩,iv,e2,e3⟩:=bP.o;have gq:=M.size;rcases hk with rfl|rfl|rfl
       .rw[aa _ o (gC F.o (gm R) R) dl,R]
       .refine(bR.block _ (by have:=F.o.size;omega) fun e=>ce.o ?_).trans (F.o.block _ (by omega));rcases e with e|e|e
        .exact .inl e
        .exact .inr (.inl e)
        .exact .inr (.inr ((av _ e).elim id (fun h=>by omega)))
       .refine(bR.block _ (by have:=F.o.size;omega) fun e=>bH.o ?_).trans (F.o.block _ (by omega));rcases e with e|e|e
        .exact .inl e
        .exact .inr (.inl e)
        .exact .inr (.inr ((av _ e).elim id (fun h=>by omega)))
      have HG:=gj a1;have bt:=gj ((H2.o.below F.o).aside bI aa);have bS:gy (jq (G (Q wr)) q r V w'):=gj ⟨au F.o.size a6,fun k hk=>aE k hk,fun k cs hW hk=>aa k _ (gC F.o (gm hk) hk) (nZ (by decide) (by decide))⟩;have dn:gy (KeepsFrom (G (Q W1)) V w'):=gj ⟨au F.o.size a6,fun k o hk R hc=>aa k o (gC F.o (gm R) R) ⟨(fun C hW e=>by rw[e]at hc;cases hc),(fun C hW e=>by rw[e]at hc;cases hc),(fun es cl e=>by omega)⟩⟩;have e9:=bS.o.size;clear a1 aa a6 a5 av M
      gi_wp2
      refine⟨dn.o,bS.o,?_,bt.o,by omega,(aE _ (.inl rfl)).trans h4⟩;rw[cp.o,dk.o,af ca.o,jz.xY];exact HG.o
     | true=>
      obtain⟨v0,dp⟩:∃v0,ku (kt,kb) d.S=N v0:=cR.1 bE.o.symm;have bO:ov=v0:=by have:=go.o;rw[dp]at this;exact this
      subst bO;have e1:=gj dp;clear dp;by_cases bX:ov=vb
      .have gs:gy (((kt,kb),vb)∈d.S):=gj (b9.o.2 (by rw[e1.o,bX]));subst bX;have gt:((⟨Rm ov⟩:ByteArray)==⟨Rm ov⟩)=true:=(dH _ _).2 rfl;have hG:((⟨Rm ov⟩:ByteArray) != ⟨Rm ov⟩)=false:=by rw[bne,gt];rfl
       gi_wp2
       refine⟨⟨F.o.size,fun k o hk R hc=>gC F.o (gm R) R⟩,jq.iN F.o (by have:=bP.o.1;obtain⟨o,R,-⟩:=this;exact gm R) (by have:=bP.o.2.1;have:=M.size;omega) (by have:=bP.o.2.2.1;have:=M.size;omega),?_,H2.o.below F.o,by have:=F.o.size;omega,gC F.o (gm h4) h4⟩;rw[cp.o,dk.o,aw gs.o];exact H1.o.below F.o
      .have ca:gy (¬((kt,kb),vb)∈d.S):=gj fun hm=>by
        have h1:=b9.o.1 hm;rw[e1.o]at h1;exact bX (Option.some.inj h1)
       have hi:((⟨Rm ov⟩:ByteArray)==⟨Rm vb⟩)=false:=by
        cases gu:((⟨Rm ov⟩:ByteArray)==⟨Rm vb⟩) with
        | false=>rfl
        | true=>have e:=(dH _ _).1 gu;exact absurd (by injection e with e;simpa using e) bX
       have fd:(ov==vb)=false:=ar.2 bX;have hj:(!(ov==vb))=true:=by rw[fd];rfl
       gi_wp2_with fail
       refine⟨cK,(callsIn_wide.2 (eV.o _ F.o)).mono ?_⟩;rintro e w' hX;obtain⟨a1,aa,a6⟩:=qa.step av (a5.below F.o) (M.trans (gR.gO F.o)) hX;obtain⟨rfl,gp,-,bR,-⟩:=hX;have aE:∀k,k=G (Q wr)\/k=q\/k=r->w'.heap[k]?=V.heap[k]?:=fun k hk=>by
        obtain⟨⟨o,R,dl⟩,iv,e2,e3⟩:=bP.o;have gq:=M.size;rcases hk with rfl|rfl|rfl
        .rw[aa _ o (gC F.o (gm R) R) dl,R]
        .refine(bR.block _ (by have:=F.o.size;omega) fun e=>ce.o ?_).trans (F.o.block _ (by omega));rcases e with e|e|e
         .exact .inl e
         .exact .inr (.inl e)
         .exact .inr (.inr ((av _ e).elim id (fun h=>by omega)))
        .refine(bR.block _ (by have:=F.o.size;omega) fun e=>bH.o ?_).trans (F.o.block _ (by omega));rcases e with e|e|e
         .exact .inl e
         .exact .inr (.inl e)
         .exact .inr (.inr ((av _ e).elim id (fun h=>by omega)))
       have HG:=gj a1;have bt:=gj ((H2.o.below F.o).aside bI aa);have bS:gy (jq (G (Q wr)) q r V w'):=gj ⟨au F.o.size a6,fun k hk=>aE k hk,fun k cs hW hk=>aa k _ (gC F.o (gm hk) hk) (nZ (by decide) (by decide))⟩;have dn:gy (KeepsFrom (G (Q W1)) V w'):=gj ⟨au F.o.size a6,fun k o hk R hc=>aa k o (gC F.o (gm R) R) ⟨(fun C hW e=>by rw[e]at hc;cases hc),(fun C hW e=>by rw[e]at hc;cases hc),(fun es cl e=>by omega)⟩⟩;have e9:=bS.o.size;clear a1 aa a6 a5 av M
       gi_wp2
       refine⟨dn.o,bS.o,?_,bt.o,by omega,(aE _ (.inl rfl)).trans h4⟩;rw[cp.o,dk.o,af ca.o,jz.xY];exact HG.o
    case done2=>
     rintro D2 ys V gv rfl ⟨h1,Z,h3,h4⟩ ba;have gx:=Z.defer;have gz:D≠D2:=by omega
     have hH:=h1.ext.size;rw[dx,Jk]at h1;have a1:V.grownBy (V.putObj D2 (.deferred J)) (N D2):=grownBy_putObj' V D2 _;have h5:=h1.Bf (B:=G (Q W1)) a1 (fun r e=>by cases e;exact⟨gv,_,ba,rfl⟩) (by omega) (by omega);have ds:(V.putObj D2 (.deferred J)).heap[D]?=N (.deferred (N [])):=(World.putObj_heap_other gz).trans gx;have aa:(V.putObj D2 (.deferred J)).grownBy ((V.putObj D2 (.deferred J)).putObj D (.deferred J)) (N D):=grownBy_putObj' _ D _;have h6:=h5.Bf (B:=G (Q w)+1) aa (fun r e=>by cases e;exact⟨by omega,_,ds,rfl⟩) (by omega) (by omega);refine⟨by simp,.inl ⟨_,_,rfl,run_takeDeferred ba,by simp,.inl ⟨_,_,rfl,run_takeDeferred ds,?_⟩⟩⟩;exact⟨_,ef rfl _ _ _,rfl,h6⟩
    case stop2=>rintro D c pre W _ _ h _;exact h.elim
 case stop=>rintro D c pre W _ _ h _;exact h.elim
end Go.Proofs.YtkkfmkhbdoeglabGreatDoor
