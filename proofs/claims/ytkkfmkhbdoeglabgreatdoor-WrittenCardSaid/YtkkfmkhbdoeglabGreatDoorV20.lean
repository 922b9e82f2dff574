/- Lemmas of the proof. No condition. -/
import Derived.Conc.LoneCalls
import Derived.Conc.LoneSelect
import Derived.Conc.SmallLaws
import Derived.Test.YtkkfmkhbdoeglabGreatDoorV14
import Derived.Test.YtkkfmkhbdoeglabGreatDoorV19
set_option maxHeartbeats 4000000
set_option maxRecDepth 100000
namespace Go.Proofs.YtkkfmkhbdoeglabGreatDoor
open Go renaming World->Q0,Value->Q4,Calls->Rg,TypeId->Ri,undef->Rj
open Go.Ending renaming returned->Ra
open Go.IntKind renaming i64->Y,u64->Re
open Go.Obj renaming cells->Q1
open Go.RowKit renaming Below->Q8
open Go.Value renaming int->I,pointer->Q5,slice->Q6,agg->Q9,iface->Rb,tuple->Rc,bool->Rh,ownBlock->Rl
open Go.World renaming heap->Q,alloc->Ro,setCell->Rp
open List renaming length->O,toArray->Rm
open Option renaming none->J,some->N
open _root_.Array renaming size->G
open Go.Proofs.Tryz
open Go.RowKit
variable{C:Nat->List E->Prop}{D F G' M b d i:Nat->Prop}{H:gA}{P P':iM}{S T':List E}{a at' base c cap h j n nQ p q r s st t v v':Nat}{a1:iy}{d':List gw}{data:gw}{f:Option (Nat×Nat)}{g:jP}{l:List Int}{m:Option (Nat×Nat×List gw)}{os:List kv}{tk:iV}{u:Q4}{vals:List Q4}{w w' w1:Q0}
theorem uO(h:lF v os=J):9<=(tS v os).length/\(tS v os).length<=200:=by
 have i:O os<=8/\jA 0 [] os=J:=by
  unfold lF at h;split at h
  .cases h
  .split at h
   .cases h
   .rename_i h1 l;exact⟨by omega,h⟩
 have b:∀o∈os,(lI o).length<=12:=by intro o j;obtain⟨k,hk,rfl⟩:=cZ j;obtain⟨m,d⟩:=mR os 0 [] i.2 k hk;exact(wV d).1
 have:=F8 v os (O os) b;rw[Ds]at this;refine⟨by simp[tS,nC];omega,by omega⟩
def jz.rW(d d':jz):Prop:=d'.S=d.S/\d'.iF=d.iF/\d'.room=d.room
theorem jz.rW.refl(d:jz):d.rW d:=⟨rfl,rfl,rfl⟩
theorem jz.rW.trans{a b c:jz}(h:a.rW b)(k:b.rW c):a.rW c:=⟨k.1.trans h.1,k.2.1.trans h.2.1,k.2.2.trans h.2.2⟩
theorem qn(d:jz):d.rW d.stop:=⟨rfl,rfl,rfl⟩
theorem rE{d:jz}(h:d.ir=true):d.stop.ir=true:=by unfold jz.stop;simp[h]
structure Qb(ps:List gw)(at':Nat)(H H1:gA)(r:Option Nat):Prop where
 held:H1.held=H.held
 dp:H.dp.rW H1.dp
 gX:∃m,m<=O ps/\H1.gX=H.gX++(ps.take m).zipIdx at'/\(r=J->H1.dp.ir=false->m=O ps/\H1.gG=ig (fun _=>true) 0 (ps.zipIdx at') H.gG)
 oE:H.dp.ir=true->H1.dp.ir=true/\H1.gX=H.gX
 err:∀f,r=N f->1<=f/\0<=H.fail
 fail:0<=H1.fail->0<=H.fail
 len:O H1.gG=O H.gG
theorem nI(h:0<=H.jy.fail):0<=H.fail:=by unfold gA.jy at h;simp only at h;split at h<;>omega
theorem yE(h:H.jM=true):0<=H.fail:=by unfold gA.jM at h;have:=dh h;omega
theorem LL{α:Type}(l:List (α×Nat))(d:List α)(k j:Nat):ig (fun _=>true) k l d=ig (fun _=>true) j l d:=by
 induction l generalizing d k j with
 | nil=>rfl
 | cons x l ih=>obtain⟨p,n⟩:=x;unfold ig;exact ih _ _ _
theorem vw:∀(ps:List gw) (H:gA) (at':Nat),Qb ps at' H (jc ps H at').1 (jc ps H at').2
 | [],H,at'=>⟨rfl,.refl _,⟨0,aq _,by simp[jc],fun _ _=>⟨rfl,rfl⟩⟩,fun h=>⟨h,rfl⟩,fun f h=>(by cases h),id,rfl⟩
 | s::ps,H,at'=>by
  unfold jc;rcases cP H.jM with l|l
  .have e:H.write at' s=(H.jy,N (at'+2)):=by unfold gA.write;rw[aw l]
   rw[e];exact⟨rfl,.refl _,⟨0,aJ _,by simp[gA.jy],fun h=>by cases h⟩,fun h=>⟨h,rfl⟩,fun f h=>(by cases h;exact⟨by omega,yE l⟩),nI,rfl⟩
  .obtain⟨d,b⟩:∃d:gA,d={H.jy with il:=H.il+1,gG:=H.gG.set at' s,dp:=H.dp.stop,gX:=if H.dp.stop.ir then H.gX else H.gX++[(s,at')]}:=⟨_,rfl⟩;have e:H.write at' s=(d,J):=by unfold gA.write;rw[af (by rw[l];decide),b]
   rw[e];simp only;obtain⟨h1,q,⟨m,hm,hl,x⟩,y,o,r,u⟩:=vw ps d (at'+1);have a1:d.held=H.held:=by rw[b];rfl
   have a2:d.dp=H.dp.stop:=by rw[b]
   have a3:d.gG=H.gG.set at' s:=by rw[b]
   have a4:d.fail=H.jy.fail:=by rw[b]
   have a5:d.gX=if H.dp.stop.ir then H.gX else H.gX++[(s,at')]:=by rw[b]
   rcases cP H.dp.stop.ir with j|j
   .obtain⟨g1,g2⟩:=y (by rw[a2];exact j);rw[j,aw rfl]at a5;refine⟨h1.trans a1,(qn _).trans (a2▸q),⟨0,aJ _,by rw[g2,a5];simp,fun i hdd=>?_⟩,fun _=>⟨g1,g2.trans a5⟩,fun f i=>⟨(o f i).1,nI (a4▸(o f i).2)⟩,fun h=>nI (a4▸r h),by rw[u,a3,cA]⟩;rw[hdd]at g1;cases g1
   .rw[j,af (by decide)]at a5;refine⟨h1.trans a1,(qn _).trans (a2▸q),⟨m+1,by rw[ao];omega,by rw[hl,a5,aN,List.zipIdx_cons,bJ];rfl,fun i hdd=>?_⟩,fun h=>?_,fun f i=>⟨(o f i).1,nI (a4▸(o f i).2)⟩,fun h=>nI (a4▸r h),by rw[u,a3,cA]⟩
    .obtain⟨B,C⟩:=x i hdd;refine⟨by rw[B];rfl,?_⟩;rw[C,a3,List.zipIdx_cons];exact LL _ _ 0 1
    .rw[rE h]at j;cases j
structure pb(n:Nat)(H:gA)(g:jP)(v:Nat)(T:List E):Prop where
 gG:H.gG=H.held
 gX:H.gX=[]
 len:O H.held=n
 stamps:kI H.held g.gF
 inv:j9 ni og iO [] (H.held.map gN) (ik n) g.iC v T g.next
 next:g.next<=n
 ir:H.dp.ir=false
structure pt(n:Nat)(d:List gw)(s v:Nat)(T:List E):Prop where
 len:O d=n
 stamps:kI d s
 inv:∃iC next,next<=n/\j9 ni og iO [] (d.map gN) (ik n) iC v T next
def Fu(n:Nat)(H:gA)(s:Nat)(C:Nat->List E->Prop):Prop:=∀b,∃v T,C v T/\pt n (ig b 0 H.gX H.held) s v T
theorem kI.mono{d:List gw}(h:kI d s)(i:s<=t):kI d t:=fun b j=>au (h b j) i
theorem pt.mono{d:List gw}{T:List E}(h:pt n d s v T)(b:s<=t):pt n d t v T:=⟨h.len,h.stamps.mono b,h.inv⟩
theorem Fu.mono{D:Nat->List E->Prop}(h:Fu n H s C)(d:s<=t)(i:∀v T,C v T->D v T):Fu n H t D:=fun b=>by obtain⟨v,T,h1,j⟩:=h b;exact⟨v,T,i v T h1,j.mono d⟩
theorem pb.image{T:List E}(h:pb n H g v T):pt n H.held g.gF v T:=⟨h.len,h.stamps,_,_,h.next,h.inv⟩
theorem pb.may{T:List E}(h:pb n H g v T):Fu n H g.gF (fun w U=>w=v/\U=T):=fun b=>⟨v,T,⟨rfl,rfl⟩,by rw[h.gX];exact h.image⟩
structure Mp(ps:List gw)(at':Nat)(H H1:gA)(r:Option Nat):Prop where
 dp:H.dp.rW H1.dp
 mH:r=J->H1.dp.ir=false->H1.held=ig (fun _=>true) 0 (ps.zipIdx at') H.held/\H1.gG=H1.held/\H1.gX=[]
 pW:(∃f,r=N f)\/H1.dp.ir=true->H1.held=H.held/\∃m,H1.gX=(ps.take m).zipIdx at'
 err:∀f,r=N f->1<=f/\0<=H.fail
 fail:0<=H1.fail->0<=H.fail
 len:O H1.gG=O H.gG
theorem CI(g:jP)(at':Nat)(data:gw)(h1:H.gG=H.held)(l:H.gX=[]):Mp (iH (g.gF+1) data) at' H (gT H g at' data).1 (gT H g at' data).2:=by
 unfold gT;obtain⟨w1,w2,⟨m,hm,hl,o⟩,x,w5,d,i⟩:=vw (iH (g.gF+1) data) H at';generalize jc (iH (g.gF+1) data) H at'=q at *
 obtain⟨H1,r⟩:=q;rw[l,aQ]at hl;cases r with
 | some f=>exact⟨w2,fun h=>(by cases h),fun _=>⟨w1,m,hl⟩,w5,d,i⟩
 | none=>
  show Mp _ _ _ H1.jY.1 H1.jY.2;unfold gA.jY;rcases cP H1.jM with j|j
  .rw[aw j];exact⟨w2,fun h=>(by cases h),fun _=>⟨w1,m,hl⟩,fun f h=>(by cases h;exact⟨aq _,d (yE j)⟩),fun h=>d (nI h),i⟩
  .rw[af (by rw[j];decide)];rcases cP H1.dp.stop.ir with b|b
   .rw[aw b];refine⟨w2.trans (qn _),fun _ h=>?_,fun _=>⟨w1,m,hl⟩,fun f h=>(by cases h),fun h=>d (nI h),i⟩;rw[show({H1.jy with dp:=H1.dp.stop} : gA).dp.ir=H1.dp.stop.ir from rfl,b]at h;cases h
   .rw[af (by rw[b];decide)];have hdd:H1.dp.ir=false:=by
     rcases cP H1.dp.ir with h|h
     .rw[rE h]at b;cases b
     .exact h
    obtain⟨s,u⟩:=o rfl hdd;rw[s,aM]at hl;refine⟨w2.trans (qn _),fun _ _=>⟨?_,?_,rfl⟩,fun h=>?_,fun f h=>(by cases h),fun h=>d (nI h),i⟩
    .show ig (fun _=>true) 0 H1.gX H1.held=_;rw[hl,w1]
    .show H1.gG=ig (fun _=>true) 0 H1.gX H1.held;rw[hl,w1,u,h1]
    .rcases h with ⟨f,h⟩|h
     .cases h
     .rw[show({H1.jy with dp:=H1.dp.stop,held:=ig (fun _=>true) 0 H1.gX H1.held,gX:=[]} : gA).dp.ir=H1.dp.stop.ir from rfl,b]at h;cases h
theorem AQ{l:gw}(h:tR l=.inl (v,os)):og l=N (v,os):=by unfold og;rw[h]
theorem Im{l:gw}(h:kJ l=.inl (v,S)):ni l=N (v,S):=by unfold ni;rw[h]
structure Step(jj n:Nat)(H:gA)(g:jP)(v:Nat)(T:List E)(v':Nat)(T':List E)(H1:gA)(g1:jP)(r:Option Nat):Prop where
 dp:H.dp.rW H1.dp
 mH:r=J->H1.dp.ir=false->pb n H1 g1 v' T'
 may:Fu n H1 (g.gF+jj) (fun w U=>(w=v/\U=T)\/(w=v'/\U=T'))
 gF:g1.gF<=g.gF+jj
 err:∀f,r=N f->1<=f/\0<=H.fail
 fail:0<=H1.fail->0<=H.fail
theorem QW{d:List gw}{ps:List gw}{m:Nat}(b:Nat->Bool):(ig b 0 ((ps.take m).zipIdx at') d).map gN=ig b 0 (((ps.map gN).take m).zipIdx at') (d.map gN):=by rw[xn];congr 1;rw[<-List.map_take,List.zipIdx_map];rfl
theorem BW(b:s<18446744073709551616)(d:0<O data)(i:iw (O data)<256):sR s ((iH s data).map gN) data/\((iH s data).map gN).length=iw (O data):=
 ⟨Jg b d i,by rw[aB,lP]⟩
theorem zl{T:List E}(h:pb n H g v T)(l:g.gF+1<18446744073709551616)(m:0<O data)(o:iw (O data)<256)(q:g.next+iw (O data)<=n)(r:tR data=.inl (v+1,os))(d:kI d' (g.gF+1))(b:O d'=n)(hm:qU (H.held.map gN) (d'.map gN) g.next ((iH (g.gF+1) data).map gN)):
  (pd (d'.map gN) g.next ((iH (g.gF+1) data).map gN)->j9 ni og iO [] (d'.map gN) (ik n) g.iC (v+1) (iO T os) (g.next+iw (O data)))/\(pt n d' (g.gF+1) v T\/pt n d' (g.gF+1) (v+1) (iO T os)):=by
 obtain⟨s,u⟩:=BW l m o;obtain⟨i,x⟩:=h.inv.delta hm s h.stamps.rU (by omega) (AQ r);rw[u]at i;refine⟨i,?_⟩;by_cases j:pd (d'.map gN) g.next ((iH (g.gF+1) data).map gN)
 .exact .inr ⟨b,d,_,_,q,i j⟩
 .exact .inl ⟨b,d,_,_,h.next,x j⟩
theorem zm{T:List E}(h:pb n H g v T)(o:g.gF+1<18446744073709551616)(q:0<O data)(r:iw (O data)<256)(i:iw (O data)<=ik n)(j:2*ik n<=n)(s:kJ data=.inl (v',T'))(d:kI d' (g.gF+1))(b:O d'=n)(hm:qU (H.held.map gN) (d'.map gN) ((1-g.iC)*ik n) ((iH (g.gF+1) data).map gN)):
  (pd (d'.map gN) ((1-g.iC)*ik n) ((iH (g.gF+1) data).map gN)->j9 ni og iO [] (d'.map gN) (ik n) (1-g.iC) v' T' (2*ik n))/\(pt n d' (g.gF+1) v T\/pt n d' (g.gF+1) v' T'):=by
 obtain⟨u,x⟩:=BW o q r;obtain⟨l,y⟩:=h.inv.nG hm u (by rw[x];exact i) (by rw[aB,h.len];exact j) h.stamps.rU (by omega) (Im s);refine⟨l,?_⟩;by_cases m:pd (d'.map gN) ((1-g.iC)*ik n) ((iH (g.gF+1) data).map gN)
 .exact .inr ⟨b,d,_,_,j,l m⟩
 .exact .inl ⟨b,d,_,_,h.next,y m⟩
theorem Cm{T:List E}(h:pb n H g v T)(y:g.gF+1<18446744073709551616)(B:iw (O data)<256)(j:at'+iw (O data)<=n)(l:∀d':List gw,kI d' (g.gF+1)->O d'=n->qU (H.held.map gN) (d'.map gN) at' ((iH (g.gF+1) data).map gN)->(pt n d' (g.gF+1) v T\/pt n d' (g.gF+1) v' T')):
  H.dp.rW (gT H g at' data).1.dp/\((gT H g at' data).2=J->(gT H g at' data).1.dp.ir=false->(gT H g at' data).1.held=ig (fun _=>true) 0 ((iH (g.gF+1) data).zipIdx at') H.held/\(gT H g at' data).1.gG=(gT H g at' data).1.held/\(gT H g at' data).1.gX=[]/\(gT H g at' data).1.held.length=n/\kI (gT H g at' data).1.held (g.gF+1)/\
    qU (H.held.map gN) ((gT H g at' data).1.held.map gN) at' ((iH (g.gF+1) data).map gN)/\pd ((gT H g at' data).1.held.map gN) at' ((iH (g.gF+1) data).map gN))/\
   (∀b,pt n (ig b 0 (gT H g at' data).1.gX (gT H g at' data).1.held) (g.gF+1) v T\/pt n (ig b 0 (gT H g at' data).1.gX (gT H g at' data).1.held) (g.gF+1) v' T')/\
   (∀f,(gT H g at' data).2=N f->1<=f/\0<=H.fail)/\(0<=(gT H g at' data).1.fail->0<=H.fail)/\(gT H g at' data).1.gG.length=n:=by
 obtain⟨s1,s2,C,D,F,M⟩:=CI g at' data h.gG h.gX;generalize gT H g at' data=q at *
 obtain⟨H1,r⟩:=q;simp only at *
 have o:(iH (g.gF+1) data).length=iw (O data):=lP _ _;have i:∀b m,kI (ig b 0 (((iH (g.gF+1) data).take m).zipIdx at') H.held) (g.gF+1)/\(ig b 0 (((iH (g.gF+1) data).take m).zipIdx at') H.held).length=n/\qU (H.held.map gN) ((ig b 0 (((iH (g.gF+1) data).take m).zipIdx at') H.held).map gN) at' ((iH (g.gF+1) data).map gN):=fun b m=>by refine⟨h.stamps.apply y B b m at' (by rw[h.len];exact j),by rw[nB,h.len],?_⟩;rw[QW];exact GD b (by rw[aB,aB,o,h.len];exact j)
 refine⟨s1,fun s hdd=>?_,fun b=>?_,D,F,?_⟩
 .obtain⟨g1,g2,u⟩:=s2 s hdd;have:=i (fun _=>true) (iH (g.gF+1) data).length;rw[aM,<-g1]at this;refine⟨g1,g2,u,this.2.1,this.1,this.2.2,?_⟩;have e:=QW (d:=H.held) (ps:=iH (g.gF+1) data) (at':=at') (m:=(iH (g.gF+1) data).length) (fun _=>true);rw[aM,<-g1]at e;rw[e,show(iH (g.gF+1) data).length=((iH (g.gF+1) data).map gN).length by rw[aB],aM];exact IJ (by rw[aB,aB,o,h.len];exact j)
 .by_cases x:(∃f,r=N f)\/H1.dp.ir=true
  .obtain⟨g1,m,g2⟩:=C x;rw[g1,g2];obtain⟨m1,m2,m3⟩:=i b m;exact l _ m1 m2 m3
  .have s:r=J:=by
    cases r with
    | none=>rfl
    | some f=>exact absurd (.inl ⟨f,rfl⟩) x
   have hdd:H1.dp.ir=false:=by
    rcases cP H1.dp.ir with e|e
    .exact absurd (.inr e) x
    .exact e
   obtain⟨g1,g2,u⟩:=s2 s hdd;rw[u];have:=i (fun _=>true) (iH (g.gF+1) data).length;rw[aM,<-g1]at this;exact l _ this.1 this.2.1 this.2.2
 .rw[M,h.gG,h.len]
theorem DI{T:List E}(h:pb n H g v T)(j:g.gF+1<18446744073709551616)(m:0<O data)(l:iw (O data)<256)(i:g.next+iw (O data)<=n)(o:tR data=.inl (v+1,os)):
  Step 1 n H g v T (v+1) (iO T os) (jk H g data).1 (jk H g data).2.1 (jk H g data).2.2:=by
 obtain⟨w1,w2,w3,s,w5,y⟩:=Cm (at':=g.next) (data:=data) (v':=v+1) (T':=iO T os) h j l i (fun d' a b c=>(zl h j m l i o a b c).2);unfold jk;generalize gT H g g.next data=q at *
 obtain⟨H1,r⟩:=q;have d:Fu n H1 (g.gF+1) (fun w U=>(w=v/\U=T)\/(w=v+1/\U=iO T os)):=fun u=>by
  rcases w3 u with k|k
  .exact⟨v,T,.inl ⟨rfl,rfl⟩,k⟩
  .exact⟨v+1,_,.inr ⟨rfl,rfl⟩,k⟩
 cases r with
 | some f=>exact⟨w1,fun e=>(by cases e),d,by show g.gF+1<=_;omega,s,w5⟩
 | none=>refine⟨w1,fun _ hdd=>?_,d,by show g.gF+1<=_;omega,s,w5⟩;obtain⟨g1,g2,x,g4,g5,g6,g7⟩:=w2 rfl hdd;exact⟨g2,x,g4,g5,(zl h j m l i o g5 g4 g6).1 g7,i,hdd⟩
theorem Dy{T:List E}(h:pb n H g v T)(m:32<=n/\n<=128)(j:g.gF+1<18446744073709551616)(o:0<(kh v' T').length)(s:(kh v' T').length<=10+16*(n-8))(u:kJ (kh v' T')=.inl (v',T')):
  Step 1 n H g v T v' T' (iz H g v' T').1 (iz H g v' T').2.1 (iz H g v' T').2.2/\((iz H g v' T').2.2=J->(iz H g v' T').1.dp.ir=false->(iz H g v' T').2.1.next=2*ik n/\(iz H g v' T').2.1.gF=g.gF+1)/\(iz H g v' T').2.1.gF=g.gF+1:=by
 have D:=mg m.1 m.2;have i:=qG s;have F:=h.inv.ES.2;have x:(1-g.iC)*ik n+iw (kh v' T').length<=n:=by
  obtain e|e:g.iC=0\/g.iC=1:=by omega
  .rw[e];omega
  .rw[e];omega
 obtain⟨w1,w2,w3,y,w5,M⟩:=Cm (at':=(1-g.iC)*ik n) (data:=kh v' T') (v':=v') (T':=T') h j (by omega) x (fun d' a b c=>(zm h j o (by omega) i (by omega) u a b c).2);have l:O H.gG=n:=by rw[h.gG,h.len]
 unfold iz;rw[l];generalize gT H g ((1-g.iC)*ik n) (kh v' T')=q at *
 obtain⟨H1,r⟩:=q;have d:Fu n H1 (g.gF+1) (fun w U=>(w=v/\U=T)\/(w=v'/\U=T')):=fun B=>by
  rcases w3 B with k|k
  .exact⟨v,T,.inl ⟨rfl,rfl⟩,k⟩
  .exact⟨v',_,.inr ⟨rfl,rfl⟩,k⟩
 cases r with
 | some f=>exact⟨⟨w1,fun e=>(by cases e),d,by show g.gF+1<=_;omega,y,w5⟩,fun e=>(by cases e),rfl⟩
 | none=>refine⟨⟨w1,fun _ hdd=>?_,d,by show g.gF+1<=_;omega,y,w5⟩,fun _ _=>⟨rfl,rfl⟩,rfl⟩;obtain⟨g1,g2,C,g4,g5,g6,g7⟩:=w2 rfl hdd;exact⟨g2,C,g4,g5,(zm h j o (by omega) i (by omega) u g5 g4 g6).1 g7,by show 2*ik n<=n;omega,hdd⟩
theorem j9.zero{d:List jD}{iC:Nat}{T:List E}{next:Nat}(h:j9 ni og iO [] d p iC 0 T next):next=2*p:=by obtain⟨i,j,m,l,o,q,hc,-⟩:=h;have h1:=hc.qA.2.2.1;have b:l=[]:=ch (by omega);subst b;cases hc;rfl
theorem Nv{T:List E}(h:pb n H g v T)(s:32<=n/\n<=128)(hs:g.gF+2<18446744073709551616)(B:0<O data)(hp:O data<=700)(C:tR data=.inl (v+1,os))(ha:v≠0->0<(kh v T).length/\(kh v T).length<=10+16*(n-8)/\kJ (kh v T)=.inl (v,T)):
  Step 2 n H g v T (v+1) (iO T os) (jH H g data v T).1 (jH H g data v T).2.1 (jH H g data v T).2.2:=by
 have Z:=mg s.1 s.2;have aa:iw (O data)<=14:=by unfold iw;omega
 have u:O H.gG=n:=by rw[h.gG,h.len]
 unfold jH;rw[u];by_cases l:n<g.next+iw (O data)
 .rw[aw l];have S:v≠0:=fun e=>by subst e;have:=h.inv.zero;omega
  obtain⟨a1,a2,a3⟩:=ha S;obtain⟨k,D,V⟩:=Dy h s (by omega) a1 a2 a3;generalize iz H g v T=q at *
  obtain⟨H1,g1,r⟩:=q;simp only at k D V;cases r with
  | some f=>exact⟨k.dp,fun e=>(by cases e),k.may.mono (dS _) fun w U h=>.inl (h.elim id id),by show g1.gF<=_;omega,k.err,k.fail⟩
  | none=>
   show Step 2 n H g v T (v+1) (iO T os) (jk H1 g1 data).1 (jk H1 g1 data).2.1 (jk H1 g1 data).2.2;rcases cP H1.dp.ir with hdd|hdd
   ·
     have hm:=k.may.mono (dS _) (fun _ _ h=>h);have W:=vw (iH (g1.gF+1) data) H1 g1.next;unfold jk gT;generalize jc (iH (g1.gF+1) data) H1 g1.next=q at *
     obtain⟨b,r2⟩:=q;obtain⟨u1,u2,-,u4,u5,u6,u7⟩:=W;simp only at u1 u2 u4 u5 u6 u7;obtain⟨u8,u9⟩:=u4 hdd;have m:Fu n b (g.gF+2) (fun w U=>(w=v/\U=T)\/(w=v+1/\U=iO T os)):=fun j=>by rw[u9,u1];obtain⟨w,U,hc,x⟩:=hm j;exact⟨w,U,.inl (hc.elim id id),x⟩
     cases r2 with
     | some f=>exact⟨k.dp.trans u2,fun e=>(by cases e),m,by show g1.gF+1<=_;omega,fun f i=>⟨(u5 f i).1,k.fail (u5 f i).2⟩,fun h=>k.fail (u6 h)⟩
     | none=>
      have F:b.jY.1.held=b.held/\b.jY.1.gX=b.gX/\b.dp.rW b.jY.1.dp/\b.jY.1.dp.ir=true/\(∀f,b.jY.2=N f->1<=f/\0<=b.fail)/\(0<=b.jY.1.fail->0<=b.fail):=by
       unfold gA.jY;split
       .rename_i i;exact⟨rfl,rfl,.refl _,u8,fun f h=>(by cases h;exact⟨aq _,yE i⟩),nI⟩
       .rw[rE u8,aw rfl];exact⟨rfl,rfl,qn _,rE u8,fun f h=>(by cases h),nI⟩
      obtain⟨f1,f2,f3,f4,f5,f6⟩:=F;show Step 2 n H g v T (v+1) (iO T os) (uW g1 data b.jY).1 (uW g1 data b.jY).2.1 (uW g1 data b.jY).2.2;generalize b.jY=q at *
      obtain⟨y,X⟩:=q;simp only at f1 f2 f3 f4 f5 f6;have o:Fu n y (g.gF+2) (fun w U=>(w=v/\U=T)\/(w=v+1/\U=iO T os)):=fun j=>by rw[f2,f1];exact m j
      cases X with
      | some f=>exact⟨(k.dp.trans u2).trans f3,fun e=>(by cases e),o,by show g1.gF+1<=_;omega,fun f i=>⟨(f5 f i).1,k.fail (u6 (f5 f i).2)⟩,fun h=>k.fail (u6 (f6 h))⟩
      | none=>refine⟨(k.dp.trans u2).trans f3,fun _ e=>?_,o,by show g1.gF+1<=_;omega,fun f i=>(by cases i),fun h=>k.fail (u6 (f6 h))⟩;rw[show(uW g1 data (y,J)).1.dp.ir=y.dp.ir from rfl,f4]at e;cases e
   .obtain⟨M,ag⟩:=D rfl hdd;have R:=k.mH rfl hdd;have d:=DI R (by omega) B (by omega) (by rw[M];omega) C;have ak:=d.gF;refine⟨k.dp.trans d.dp,d.mH,?_,?_,fun f i=>⟨(d.err f i).1,k.fail (d.err f i).2⟩,fun h=>k.fail (d.fail h)⟩
    .exact fun j=>by
      obtain⟨w,U,hc,x⟩:=d.may j;exact⟨w,U,by
       rcases hc with h|h
       .exact .inl h
       .exact .inr h,x.mono (by omega)⟩
    .have:=d.gF;omega
 .rw[af l];have k:=DI h (by omega) B (by omega) (by omega) C;exact⟨k.dp,k.mH,k.may.mono (dS _) fun _ _ h=>h,ft k.gF,k.err,k.fail⟩
theorem G9:∀(os:List wF) (d:jz),d.ir=true->(d.run os).S=d.S/\(d.run os).iF=d.iF/\(d.run os).room=d.room/\(d.run os).ir=true
 | [],d,h=>⟨rfl,rfl,rfl,h⟩
 | o::os,d,h=>by have b:d.step o=d.stop:=d.DW o (rE h);have:=G9 os (d.step o) (by rw[b];exact rE h);rw[b]at this;show(((d.step o).run os).S=_/\_);rw[show(d.run (o::os))=(d.step o).run os from rfl,b];exact this
theorem AH(d:jz)(T:List E)(b:gM d.S)(i:gM T)(hk:∀x∈T,xI x.1)(m:pT T d.room=J):
  (d.run (lU d.S T)).room=d.room/\(∀x∈(d.run (lU d.S T)).S,x∈d.S\/x∈T)/\gM (d.run (lU d.S T)).S/\
    ((d.run (lU d.S T)).ir=false->d.ir=false/\(d.run (lU d.S T)).S=T/\(d.run (lU d.S T)).iF=d.iF++(lU d.S T).map um):=by
 refine⟨Ha _ _,fun x o=>?_,(jz.xW (lU d.S T) b).1,fun hdd=>?_⟩
 .rcases Kt _ d x o with h|h
  .exact .inl h
  .exact .inr (Nk h)
 .have j:d.ir=false:=by
   rcases cP d.ir with h|h
   .rw[(G9 _ d h).2.2.2]at hdd;cases hdd
   .exact h
  refine⟨j,?_⟩;have e:=OU d T j b i hk m;rw[e]at hdd⊢;by_cases hl:d.left<0
  .obtain⟨u1,u2⟩:=NY d (lU d.S T) hl;exact⟨u1.trans (Kp b i),u2⟩
  .have l:(lU d.S T).length<=d.left.toNat:=by
    unfold jz.Fo at hdd;rw[af hl]at hdd;have:=ff hdd;omega
   unfold jz.Fo;rw[af hl,Nat.min_eq_right l,aM];exact⟨Kp b i,rfl⟩
theorem ml(h:ij v=true):v<18446744073709551615:=by unfold ij at h;simp only[dQ,dI]at h;exact h.2
structure ng(n:Nat)(room:Nat->Int)(v:Nat)(T:List E):Prop where
 sorted:gM T
 mH:∀x∈T,jB x
 over:pT T room=J
 size:jw T<=16*(n-8)
 zero:v=0->T=[]
 ver:v≠0->ij v=true
 v64:v<18446744073709551615
theorem ng.jh{room:Nat->Int}{T:List E}(h:ng n room v T):∀x∈T,xI x.1:=fun x b=>⟨(h.mH x b).1,(h.mH x b).2.1⟩
theorem ng.len{T:List E}(h:ng n (gY l) v T):O T<=120:=(qt.len (l:=l) (P:=fun _=>True) ⟨h.sorted,h.jh,BC h.over,fun _ _=>cK⟩)
theorem ng.nil(n:Nat)(l:List Int):ng n (gY l) 0 []:=⟨gM.nil,fun _ h=>(by cases h),by have b:=(oA l 0).1;have h1:=(oA l 1).1;have d:=(oA l 2).1;unfold pT;rw[af (by show ¬(gY l 0<((0:Nat):Int));omega),af (by show ¬(gY l 1<((0:Nat):Int));omega),af (by show ¬(gY l 2<((0:Nat):Int));omega)],aJ _,fun _=>rfl,fun h=>absurd rfl h,by omega⟩
theorem Bs{T:List E}{room:Nat->Int}(h:jG T room n=J):pT T room=J/\jw T<=16*(n-8):=by
 unfold jG at h;split at h
 .cases h
 .rename_i b;split at h
  .cases h
  .exact⟨b,by omega⟩
def Ax(P:iM):iV->Prop
 | .delta v os=>v=P.a.V+1/\ij v=true/\tR (tS v os)=.inl (v,os)/\0<(tS v os).length/\(tS v os).length<=700/\∀x∈iO P.a.T os,jB x
 | .nG v T=>P.a.V<v/\ij v=true/\gM T/\∀x∈T,jB x
structure qP(n:Nat)(l:List Int)(H:gA)(P:iM):Prop where
 tB:pb n H P.lg P.a.V P.a.T
 dpS:H.dp.S=P.a.T
 room:H.dp.room=gY l
 jh:ng n (gY l) P.a.V P.a.T
 l4:P.a.l4=J
theorem Ax.jh(h:Ax P tk)(i:qP n l H P)(hl:jG (tk.T P.a.T) (gY l) n=J):ng n (gY l) tk.V (tk.T P.a.T)/\P.a.V<tk.V:=by
 obtain⟨h1,b⟩:=Bs hl;cases tk with
 | delta v os=>obtain⟨g1,g2,d,g4,g5,g6⟩:=h;have j:=nK g2;exact⟨⟨sm os i.jh.sorted,g6,h1,b,fun e=>(by rw[show(iV.delta v os).V=v from rfl,g1]at e;omega),fun _=>g2,ml g2⟩,by show P.a.V<v;omega⟩
 | nG v T=>obtain⟨g1,g2,d,g4⟩:=h;exact⟨⟨d,g4,h1,b,fun e=>(by rw[show(iV.nG v T).V=v from rfl]at e;omega),fun _=>g2,ml g2⟩,g1⟩
theorem lN(a:iy)(k:UInt8)(b:gw):(a.put k b).l4=a.l4/\(a.put k b).V=a.V/\(a.put k b).T=a.T:=by unfold iy.put;split<;>exact⟨rfl,rfl,rfl⟩
theorem Na(b:qP n l H P)(i:32<=n/\n<=128)(m:P.lg.gF+2<18446744073709551616)(h:Ax P tk)(hl:jG (tk.T P.a.T) (gY l) n=J):
  Step 2 n H P.lg P.a.V P.a.T tk.V (tk.T P.a.T) (tk.iF H P).1 (tk.iF H P).2.1 (tk.iF H P).2.2:=by
 obtain⟨d,-⟩:=h.jh b hl;have enc:∀{v:Nat} {T:List E},ng n (gY l) v T->v≠0->0<(kh v T).length/\(kh v T).length<=10+16*(n-8)/\kJ (kh v T)=.inl (v,T):=fun {v T} k o=>by rw[rz];exact⟨by omega,by have:=k.size;omega,FY (k.ver o) k.sorted k.mH (by have:=k.len;omega)⟩
 cases tk with
 | delta v os=>obtain⟨rfl,g2,j,g4,g5,g6⟩:=h;exact Nv b.tB i m g4 g5 j (enc b.jh)
 | nG v T=>obtain⟨g1,g2,j,g4⟩:=h;obtain⟨q,r,s⟩:=enc d (by show v≠0;omega);obtain⟨k,-,-⟩:=Dy b.tB i (by omega) q r s;exact⟨k.dp,k.mH,k.may.mono (dS _) fun _ _ h=>h,ft k.gF,k.err,k.fail⟩
structure Qw(n:Nat)(l:List Int)(H:gA)(P:iM)(tk:iV)(H':gA)(P':iM):Prop where
 may:Fu n H' (P.lg.gF+2) (fun w U=>(w=P.a.V/\U=P.a.T)\/(w=tk.V/\U=tk.T P.a.T))
 mem:∀x∈H'.dp.S,x∈P.a.T\/x∈tk.T P.a.T
 sorted:gM H'.dp.S
 room:H'.dp.room=gY l
 fail:0<=H'.fail->0<=H.fail
 gF:P'.lg.gF<=P.lg.gF+2
 alive:H'.dp.ir=false->(qP n l H' P'/\P'.a=P.a.jO tk (gY l) n/\P'.nQ=P.nQ/\H'.dp.iF=H.dp.iF++P.a.done tk (gY l) n)\/
  (P'.a=P.a.jZ (12,0)/\1<=P'.nQ/\0<=H.fail/\H'.dp.S=P.a.T/\H'.dp.iF=H.dp.iF)
theorem JK(b:qP n l H P)(U:32<=n/\n<=128)(W:P.lg.gF+2<18446744073709551616)(h:Ax P tk)(hl:jG (tk.T P.a.T) (gY l) n=J):
  Qw n l H P tk (nz H P tk).1 (nz H P tk).2:=by
 have k:=Na b U W h hl;obtain⟨i,-⟩:=h.jh b hl;have s:O H.gG=n:=by rw[b.tB.gG,b.tB.len]
 have e:nz H P tk=An P tk (tk.iF H P):=by unfold nz;rw[b.room,s,hl]
 rw[e];generalize tk.iF H P=q at *
 obtain⟨H1,g1,r⟩:=q;obtain⟨m,F,u,y,B,C⟩:=k;simp only at m F u y B C;have j:H1.dp.S=P.a.T:=m.1.trans b.dpS;have o:H1.dp.room=gY l:=m.2.2.trans b.room;cases r with
 | some f=>exact⟨u,fun x D=>.inl (by rw[<-j];exact D),by show gM H1.dp.S;rw[j];exact b.jh.sorted,o,C,y,fun _=>.inr ⟨rfl,(B f rfl).1,(B f rfl).2,j,m.2.1⟩⟩
 | none=>
  obtain⟨M,b2,X,Z⟩:=AH H1.dp (tk.T P.a.T) (by rw[j];exact b.jh.sorted) i.sorted i.jh (by rw[o];exact i.over);refine⟨u,fun x D=>?_,X,M.trans o,C,y,fun hdd=>.inl ?_⟩
  .rcases b2 x D with h|h
   .exact .inl (by rw[<-j];exact h)
   .exact .inr h
  .obtain⟨c1,c2,c3⟩:=Z hdd;have d:=F rfl c1;obtain⟨p1,R,E⟩:=lN {P.a with V:=tk.V,T:=tk.T P.a.T} 17 (nC tk.V);refine⟨⟨⟨d.gG,d.gX,d.len,d.stamps,?_,d.next,hdd⟩,?_,M.trans o,?_,p1.trans b.l4⟩,?_,rfl,?_⟩
   .show j9 ni og iO [] (H1.held.map gN) (ik n) g1.iC (iy.put {P.a with V:=tk.V,T:=tk.T P.a.T} 17 (nC tk.V)).V (iy.put {P.a with V:=tk.V,T:=tk.T P.a.T} 17 (nC tk.V)).T g1.next;rw[R,E];exact d.inv
   .exact c2.trans E.symm
   .show ng n (gY l) (iy.put {P.a with V:=tk.V,T:=tk.T P.a.T} 17 (nC tk.V)).V (iy.put {P.a with V:=tk.V,T:=tk.T P.a.T} 17 (nC tk.V)).T;rw[R,E];exact i
   .unfold iy.jO;rw[hl];rfl
   .refine c3.trans ?_;rw[m.2.1,j];unfold iy.done;rw[hl]
theorem Gz{d:List gw}(h:kI d s):jn d<=s:=by
 have key:∀(d:List gw) (m:Nat),m<=s->kI d s->d.foldl (fun m b=>max m (gN b).gF) m<=s:=by
  intro d
  induction d with
  | nil=>exact fun m h _=>h
  | cons b d ih=>exact fun m hm i=>ih _ (by have:=i b (by simp);show max m (gN b).gF<=s;omega) fun x j=>i x (by simp[j])
 exact key d 0 ux h
theorem Gt(d:List gw):kI d (jn d):=by
 have key:∀(d:List gw) (m:Nat),m<=d.foldl (fun m b=>max m (gN b).gF) m/\kI d (d.foldl (fun m b=>max m (gN b).gF) m):=by
  intro d
  induction d with
  | nil=>exact fun m=>⟨aq _,fun x h=>(by cases h)⟩
  | cons b d ih=>
   intro m;obtain⟨h1,j⟩:=ih (max m (gN b).gF);rw[eJ];refine⟨by omega,fun x i=>?_⟩;rcases aZ.1 i with rfl|i
   .omega
   .exact j x i
 exact(key d 0).2
theorem uf{d:List gw}{T:List E}(h:pt n d s v T):∃g,GM d=(g,v,T)/\g.gF<=s/\kI d g.gF/\g.next<=n/\j9 ni og iO [] (d.map gN) (ik n) g.iC v T g.next:=by
 obtain⟨h1,i,iC,next,j,b⟩:=h;obtain⟨l,m,o,f1,f2⟩:=b.found;have hl:(d.map gN).length=n:=by rw[aB,h1]
 refine⟨⟨jn d,iC,next⟩,?_,Gz i,Gt d,j,b⟩;unfold GM;simp only[hl];rw[f1];simp only;have:=f2 (n+1) (by omega);rw[this]
inductive Started(n:Nat)(l:List Int)(C:Nat->List E->Prop)(s:Nat)(H H':gA):iM⊕(Nat×Nat×Nat)->Prop
 | pW (f:Nat) (h1:1<=f) (h2:0<=H.fail) (h3:H'.dp=H.dp) (h4:Fu n H' s C) (h5:H'.fail=-1) (h6:H'.gG=H.gG/\H'.held=H.held/\H'.gX=[]):Started n l C s H H' (.inr (12,0,f))
 | mH (P:iM) (v:Nat) (T:List E) (h1:C v T) (h2:P.a=lE v T/\P.nQ=0) (h3:Fu n H' s C) (h4:∀x∈H'.dp.S,x∈H.dp.S\/x∈T) (h5:gM H'.dp.S) (h6:H'.dp.room=gY l) (h7:0<=H'.fail->0<=H.fail) (h8:P.lg.gF<=s)
   (h9:H'.dp.ir=false->qP n l H' P):Started n l C s H H' (.inl P)
theorem nh(v:Nat)(T:List E):(lE v T).V=v/\(lE v T).T=T/\(lE v T).l4=J:=by obtain⟨b,d,i⟩:=lN ⟨v,T,[],J,J⟩ 16 (nC v);exact⟨d,i,b⟩
theorem Ce(hm:Fu n H s C)(u:∀v T,C v T->ng n (gY l) v T)(hl:H.gX=[])(x:H.gG=H.held)(y:gM H.dp.S)(i:H.dp.room=gY l):
  Started n l C s H (j7 H).1 (j7 H).2:=by
 obtain⟨v,T,hc,d⟩:=hm fun _=>true;rw[hl]at d;have d:pt n H.held s v T:=d;unfold j7 ja;by_cases m:0<=H.fail/\H.fail<O H.gG
 .rw[aw m];exact .pW _ (by omega) m.1 rfl (fun j=>⟨v,T,hc,by rw[show({H with fail:=-1} : gA).gX=[]from hl];exact d⟩) rfl ⟨rfl,rfl,hl⟩
 .rw[af m];obtain⟨g,B,g1,g2,D,g4⟩:=uf d;simp only;rw[x,B];simp only;have b:=u v T hc;rw[i,b.over];obtain⟨q,o,F⟩:=nh v T;obtain⟨r,b2,M,R⟩:=AH H.dp T y b.sorted b.jh (by rw[i];exact b.over);refine .mH _ v T hc ⟨rfl,rfl⟩ (fun j=>⟨v,T,hc,?_⟩) b2 M (r.trans i) (fun h=>?_) g1 fun hdd=>?_
  .show pt n (ig j 0 H.gX H.held) s v T;rw[hl];exact d
  .have U:0<=(if H.fail<0 then H.fail else H.fail-(O H.held:Int)):=h;split at U<;>omega
  .obtain⟨c1,c2,c3⟩:=R hdd;refine⟨⟨rfl,hl,d.len,g2,?_,D,hdd⟩,?_,r.trans i,?_,F⟩
   .show j9 ni og iO [] (H.held.map gN) (ik n) g.iC (lE v T).V (lE v T).T g.next;rw[q,o];exact g4
   .exact c2.trans o.symm
   .show ng n (gY l) (lE v T).V (lE v T).T;rw[q,o];exact b
theorem AF(hm:Fu n H s C)(b d fail:Int):
  Fu n (H.mo b d fail) s C/\(H.mo b d fail).gX=[]/\(H.mo b d fail).gG=(H.mo b d fail).held/\(H.mo b d fail).dp.S=H.dp.S/\(H.mo b d fail).dp.room=H.dp.room/\(0<=(H.mo b d fail).fail->0<=fail):=by
 obtain⟨v,T,hc,i⟩:=hm (uj b);exact⟨fun j=>⟨v,T,hc,i⟩,rfl,rfl,rfl,rfl,fun h=>(by have l:0<=max fail (-1):=h;omega)⟩
theorem GG(n:Nat)(l:List Int)(d:32<=n/\n<=128):Fu n (rX n (gY l)) 0 (fun v T=>v=0/\T=[])/\(rX n (gY l)).gX=[]/\(rX n (gY l)).gG=(rX n (gY l)).held/\(rX n (gY l)).dp=⟨-1,false,gY l,[],[]⟩/\(rX n (gY l)).fail=-1:=by have j:=mg d.1 d.2;refine⟨fun m=>⟨0,[],⟨rfl,rfl⟩,?_⟩,rfl,rfl,rfl,rfl⟩;show pt n (List.replicate n kL) 0 0 [];refine⟨bV,fun b i=>?_,0,2*ik n,by omega,N9 ni og iO [] n (ik n)⟩;rw[(List.mem_replicate.1 i).2,BD];exact aq _
theorem xe{a:iy}{frame:gw}(h:a.taken frame=(a1,J)):a1.V=a.V/\a1.T=a.T/\a1.l4=a.l4:=by
 have i:∀(a:iy) (k:UInt8) (b:gw),(a.put k b).V=a.V/\(a.put k b).T=a.T/\(a.put k b).l4=a.l4:=fun a k b=>⟨(lN a k b).2.1,(lN a k b).2.2,(lN a k b).1⟩;have d:∀(a:iy) (k:Nat),(a.pW k).V=a.V/\(a.pW k).T=a.T/\(a.pW k).l4=a.l4:=fun a k=>by obtain⟨h1,j,l⟩:=i (a.jM k) 16 (nC (a.jM k).V);obtain⟨g1,g2,m⟩:=i a 18 [UInt8.ofNat k];exact⟨h1.trans g1,j.trans g2,l.trans m⟩
 unfold iy.taken at h;split at h
 .cases h;exact i _ _ _
 .split at h
  .cases h;exact d _ _
  .split at h
   .unfold iy.delta at h;split at h
    .cases h;exact d _ _
    .split at h
     .cases h;exact i _ _ _
     .split at h
      .cases h;exact i _ _ _
      .cases h
   .split at h
    .injection h with h _;subst h;split
     .exact i _ _ _
     .exact d _ _
    .split at h
     .injection h with h _;subst h;unfold iy.mW;split
      .exact d _ _
      .split
       .exact d _ _
       .split
        .exact d _ _
        .split
         .exact d _ _
         .split
          .exact i _ _ _
          .exact i _ _ _
     .split at h
      .unfold iy.piece at h;split at h
       .cases h;exact d _ _
       .split at h
        .cases h;exact d _ _
        .split at h
         .cases h;exact i _ _ _
         .split at h
          .cases h;exact i _ _ _
          .split at h
           .cases h;exact i _ _ _
           .unfold iy.mV at h;split at h
            .cases h;exact d _ _
            .split at h
             .cases h;exact d _ _
             .split at h
              .cases h;exact i _ _ _
              .cases h
      .cases h;exact d _ _
theorem rT{a a1:iy}{frame:gw}{tk:iV}(h:a.taken frame=(a1,N tk))(m:gM a.T)(o:∀x∈a.T,jB x)(nQ:Nat)(lg:jP):a.l4=J/\a1.V=a.V/\a1.T=a.T/\a1.l4=a.l4/\a1.out=a.out/\Ax ⟨a1,nQ,lg⟩ tk:=by
 unfold iy.taken at h;split at h
 .cases h
 .rename_i i;have i:a.l4=J:=eY.1 i;refine⟨i,?_⟩;split at h
  .cases h
  .split at h
   .unfold iy.delta at h;split at h
    .cases h
    .rename_i v os b;split at h
     .cases h
     .split at h
      .cases h
      .cases h;have l:=b;rw[qD]at l;obtain⟨d,he⟩:=xz _ _ _ l;have hl:=uO d;have j:ij v=true:=by
        unfold lF at d;split at d
        .cases d
        .rename_i j;simpa using j
       refine⟨rfl,rfl,rfl,rfl,by show v=a.V+1;omega,j,by rw[he];exact b,by omega,by omega,?_⟩;exact((⟨aq _,m,o⟩:lG (O a.T) a.T).fold d).mH
   .split at h
    .cases h
    .split at h
     .cases h
     .split at h
      .unfold iy.piece at h;split at h
       .cases h
       .split at h
        .cases h
        .split at h
         .cases h
         .split at h
          .cases h
          .split at h
           .cases h
           .unfold iy.mV at h;split at h
            .cases h
            .rename_i v T b;split at h
             .cases h
             .split at h
              .cases h
              .cases h;refine⟨rfl,rfl,rfl,rfl,?_,(py b).1,(sd b).2,(py b).2.1⟩;simp only at *
               omega
      .cases h
theorem gS.Pn{a:Option Addr}{b:List Q4}(h:gS w base 1 (Q6 a n cap) n b)(k:Nat)(hk:k<=n):gS w base 1 (Q6 a k cap) k (b.take k):=by
 obtain⟨hl,d|⟨g,off,cap',e,h1,j,r,l,m,o⟩⟩:=h
 .obtain⟨e,s⟩:=d;cases e;obtain rfl:k=0:=by omega
  exact⟨by simp,.inl ⟨rfl,rfl⟩⟩
 .cases e;refine⟨by rw[ax];omega,.inr ⟨g,off,cap,rfl,h1,j,by omega,l,fun i q=>?_,o⟩⟩;rw[ax]at q;rw[m i (by omega),List.getElem_take]
theorem iX.su{a:Option Addr}{rows:List gw}(h:iX w F (Q6 a n cap) rows)(o:n=O rows)(k:Nat)(hk:k<=n):iX w F (Q6 a k cap) (rows.take k):=by
 obtain⟨vals,h1,q,r,s⟩:=h;rw[<-o]at h1;have l:(rows.take k).length=k:=by rw[ax];omega
 have he:∀b,(Q6 a k cap).ownBlock=N b->(Q6 a n cap).ownBlock=N b:=fun b d=>by cases a<;>simp[Value.ownBlock]at d⊢<;>exact d
 refine⟨vals.take k,by rw[l];exact h1.Pn k hk,fun b d=>q b (he b d),fun b d=>r b (he b d),fun i b m=>?_⟩;obtain⟨j,B⟩:=aH.1 m;rw[l]at j;rw[bF j]at m;obtain⟨u,x,y⟩:=s i b m;exact⟨u,by rw[bF j];exact x,y⟩
def tF(d:List jD)(p:Nat):Nat->Nat×Nat×Nat×List E
 | 0=>(0,0,0,[])
 | 1=>p6 ni d p (0,0,0,[]) 0
 | _=>yQ ni d p []
def mM(d:List jD)(p k ver:Nat):Option (Nat×Nat×List kv):=(List.range' (2*p) (k-2*p)).foldl (mx og d ver) J
theorem zE(d:List jD)(p k ver:Nat)(h:2*p<=k):mM d p (k+1) ver=mx og d ver (mM d p k ver) k:=by unfold mM;rw[show k+1-2*p=(k-2*p)+1 by omega,List.range'_concat,dZ];simp only[eJ,List.foldl_nil,Nat.one_mul];rw[show 2*p+(k-2*p)=k by omega]
def qZ(w:Q0)(B:Nat)(b d:List (U.K×Q4))(j:Nat->Option (Nat×Nat×List kv)):Prop:=
 ∀ver,match j ver with
  | none=>U.rV ver b=J/\U.rV ver d=J
  | some (st,tt,os)=>ver<18446744073709551615/\tt<=1000/\O os<=8/\∃l dn m i,U.rV ver b=N (Q9 #[I Re (st:Nat),Q6 l dn m,I Y (tt:Nat)])/\U.rV ver d=N (Q9 #[I Re (ver:Nat),i])/\gS w B 4 i (O os) (iP os)
theorem qZ.frame{B:Nat}{i j:List (U.K×Q4)}{d:Nat->Option (Nat×Nat×List kv)}(h:qZ w B i j d)(l:gR D w w')(q:∀k,D k->k<B):qZ w' B i j d:=fun ver=>by
 have h1:=h ver;cases m:d ver with
 | none=>rw[m]at h1;exact h1
 | some r=>obtain⟨st,tt,os⟩:=r;rw[m]at h1;obtain⟨a1,a3,a4,s,dn,u,x,a5,y,o⟩:=h1;exact⟨a1,a3,a4,s,dn,u,x,a5,y,o.frame l.size fun b e C=>l.block b C fun E=>by have:=o.ie b e;have:=q b E;omega⟩
theorem Gc(a b c:Q4)(w:Q0)(k:IntKind)(n:Int)(ha:a=I k n):(Instr.field 316 (Q9 #[a,b,c]) 0).run prog w=.ok (I k n) w:=by subst ha;kernel_rfl
theorem Ed:∀u:Q0,(zeroValue 316).run prog u=.ok (Q9 #[I Re 0,Q6 J 0 0,I Y 0]) u:=fun u=>by kernel_rfl
theorem Ec:∀u:Q0,(zeroValue 51).run prog u=.ok (Q9 #[I Re 0,Q6 J 0 0]) u:=fun u=>by kernel_rfl
theorem KG{d:List jD}{k:Nat}(hk:k<2):tF d p (k+1)=p6 ni d p (tF d p k) k:=by
 match k,hk with
 | 0,_=>rfl
 | 1,_=>rfl
theorem DU(d:List jD)(p:Nat)(acc:Nat×Nat×Nat×List E)(s:Nat)(h:acc.2.2.1<18446744073709551615):(p6 ni d p acc s).2.2.1<18446744073709551615:=by
 unfold p6;split
 .split
  .split
   .rename_i v t b;unfold ni at b;split at b
    .rename_i r i;cases b;exact ml (py i).1
    .cases b
   .exact h
  .exact h
 .exact h
theorem JD(d:List jD)(p:Nat):(yQ ni d p []).2.2.1<18446744073709551615:=DU d p _ 1 (DU d p _ 0 (by decide))
def O5(wr:Q0)(B r1 lg h q r ms iC s u p:Nat)(x:List E)(l m:List (U.K×Q4))(d:Nat->Option (Nat×Nat×List kv))(vv nv:Q4)(b:Q0):Prop:=
 ∃j st v' o T',vv=I Re (v':Nat)/\nv=I Re (st:Nat)/\v'<18446744073709551615/\jt b q 0 r T'/\jl b lg h ⟨ms,iC,o⟩/\U.ix b r1 l/\U.ix b (r1+1) m/\qZ b B l m d/\(∀f,n9 iO d (f+j) s u x (2*p)=n9 iO d f st v' T' o)/\gR (fun i=>i=lg\/i=r) wr b
theorem FN{b:Nat->Option (Nat×Nat×List kv)}{l m d i:Nat}{o T:List E}(h:∀f,n9 iO b (f+j) l m o q=n9 iO b f st v T r)(s:b (v+1)=N (d,i,os))(u:¬d<st):
  ∀f,n9 iO b (f+(j+1)) l m o q=n9 iO b f d (v+1) (iO T os) i:=fun f=>by
 rw[show f+(j+1)=(f+1)+j by omega,h (f+1)]
 conv=>lhs;unfold n9
 simp only[s];rw[af u]
theorem Ik{i:Nat->Option (Nat×Nat×List kv)}{m:Nat}{s T:List E}{u:Nat}(h:∀f,n9 iO i (f+j) m q s u=n9 iO i f st v T r)(l:i (v+1)=J\/∃a b o,i (v+1)=N (a,b,o)/\a<st)(d:Nat):n9 iO i (d+1+j) m q s u=(v,T,r):=by
 rw[h (d+1)]
 conv=>lhs;unfold n9
 rcases l with l|⟨a,b,o,l,x⟩
 .simp only[l]
 .simp only[l];rw[aw x]
theorem Nj(h:Nat)(F:Nat->Prop)(H:gA)(B:Nat)(w:Q0)(u:iU w F h H)(d:iW H B)(f:Nat)(E:(ja H).2=N f):
  Rg prog 173 #[Rb 217 (Q9 #[Q5 (N ⟨h,0,J⟩)])] w fun e w'=>∃v,e=Ra (Rc #[Q5 J,I Re 0,Q5 J,v])/\oF w w' v f/\iU w' F h (ja H).1/\gR F w w':=by
 have b:Q8 (G (Q w)) w (Ro w (Q1 #[Rb 217 (Q9 #[Q5 (N ⟨h,0,J⟩)]),I Re 0,I Y 0,I Y 0] 305)):=(Below.rf w).alloc gH _;have hl:jl (Ro w (Q1 #[Rb 217 (Q9 #[Q5 (N ⟨h,0,J⟩)]),I Re 0,I Y 0,I Y 0] 305)) (G (Q w)) h ⟨0,0,0⟩:=gB w _;have x:¬F (G (Q w)):=fun e=>by have:=u.lt _ e;omega
 have j:=gj (Bt (G (Q w)) h F H ⟨0,0,0⟩ B _ hl (u.below b) d x);have l:=gj b;clear u d b hl;go_enter func173,ntmps173;go_wp2_with fail;refine j.o.mono ?_;rintro e w2 ⟨m,q,r⟩;rw[E]at r;obtain⟨v,rfl,s⟩:=r;have y:=gj s;obtain⟨M,rfl,-,-⟩:=s;have C:=gj m;have D:=gj q;clear m q j;go_wp2;refine ai (v:=Rc #[Q5 J,I Re 0,Q5 J,Rb 188 (Q5 (N ⟨M,0,J⟩))]) (by simp[results,results173,go_sem]) rfl ?_;exact⟨_,rfl,y.o.mono l.o.size,C.o,(gR.gO l.o).j8 D.o fun i e=>e.imp id fun e=>by rw[e];exact aq _⟩
structure Af(w3:Q0)(B lg h st0 p:Nat)(d:List jD)(k q r:Nat)(vv tv nv:Q4)(wr:Q0):Prop where
 nv:nv=I Re ((tF d p k).1:Nat)
 vv:vv=I Re ((tF d p k).2.2.1:Nat)
 tv:tv=Q5 (N ⟨q,0,J⟩)
 ent:jt wr q 0 r (tF d p k).2.2.2
 qr:B<=q/\B<=r/\q≠lg
 iF:jl wr lg h ⟨st0,(tF d p k).2.1,0⟩
 ext:gR (fun j=>j=lg) w3 wr
theorem Ly(h:Nat)(F:Nat->Prop)(H:gA)(B:Nat)(w:Q0)(lm:iU w F h H)(c4:iW H B)(lu:gZ w)(hV:∀k,F k->2<=k)(iC v next:Nat)(T:List E)(hinv:j9 ni og iO [] (H.gG.map gN) (ik (O H.gG)) iC v T next)(lw:(ja H).2=J):
  Rg prog 173 #[Rb 217 (Q9 #[Q5 (N ⟨h,0,J⟩)])] w fun e w'=>∃lg q r,e=Ra (Rc #[Q5 (N ⟨lg,0,J⟩),I Re (v:Nat),Q5 (N ⟨q,0,J⟩),.nilIface])/\jl w' lg h ⟨jn H.gG,iC,next⟩/\jt w' q 0 r T/\G (Q w)<=lg/\G (Q w)<=q/\G (Q w)<=r/\q≠lg/\iU w' F h (ja H).1/\gR F w w':=by
 obtain⟨n,ll⟩:∃n,n=O H.gG:=⟨_,rfl⟩;have b8:=c4.n;rw[<-ll]at b8 hinv;have hW:=mg b8.1 b8.2;obtain⟨d,ln⟩:∃d,d=H.gG.map gN:=⟨_,rfl⟩;rw[<-ln]at hinv;have hX:O d=n:=by rw[ln,aB,ll]
 obtain⟨p,ld⟩:∃p,p=ik n:=⟨_,rfl⟩;rw[<-ld]at hW hinv;have eb:=gj hinv;have HD:=gj ln;have HN:=gj ll;have HP:=gj ld;have ec:Q8 (G (Q w)) w (Ro w (Q1 #[Rb 217 (Q9 #[Q5 (N ⟨h,0,J⟩)]),I Re 0,I Y 0,I Y 0] 305)):=(Below.rf w).alloc gH _;have hl:jl (Ro w (Q1 #[Rb 217 (Q9 #[Q5 (N ⟨h,0,J⟩)]),I Re 0,I Y 0,I Y 0] 305)) (G (Q w)) h ⟨0,0,0⟩:=gB w _;have ed:¬F (G (Q w)):=fun e=>by have:=lm.lt _ e;omega
 have kB:=gj ed;have hY:=gj lm.lt;have gf:=gj (Bt (G (Q w)) h F H ⟨0,0,0⟩ B _ hl (lm.below ec) c4 ed);have cq:=gj c4.s64;have hZ:=gj ec;have HG:=gj lu;clear lm c4 ec hl lu hinv ln ld ed;go_enter func173,ntmps173;go_wp2_with fail;have b9:(Ro w (Q1 #[Rb 217 (Q9 #[Q5 (N ⟨h,0,J⟩)]),I Re 0,I Y 0,I Y 0] 305)).heap.size=G (Q w)+1:=aj _ _;refine gf.o.mono ?_;rintro e w2 ⟨gg,bw,gl⟩;rw[lw]at gl;obtain⟨lW,rfl,b3,c5⟩:=gl;have h2:=gj gg;have h3:=gj ((gR.gO hZ.o).j8 bw (T:=fun i=>F i\/i=G (Q w)) fun i e=>e.imp id fun e=>by rw[e];exact aq _:gR F w w2);have bP:gy (G (Q w)+1<=G (Q w2)):=gj (by have:=bw.size;rw[b9]at this;exact this);have gn:=gj b3;have eg:=gj c5;obtain⟨ga,cr,rfl,h4,-⟩:=b3.get;rw[<-ll]at h4⊢;clear gg bw b3 c5 gf b9 ll;go_wp2_with fail;refine(DP n w2 b8.1 b8.2).mono ?_;rintro e w3 ⟨rfl,rfl⟩;rw[<-HP.o];go_wp2_with fail;refine(sL w3).mono ?_;rintro e w4 ⟨rfl,go,c6,gp⟩;have h5:=gj go;have gq:=gj c6;have h6:gy (jl w4 (G (Q w)) h ⟨jn H.gG,0,0⟩):=gj (by
  have h1:=gC c6 (gm eg.o) eg.o;have e:na ⟨0,0,0⟩ H.gG (O H.gG)=jn H.gG:=by unfold na;rw[aM];exact Nat.zero_max _
  rw[e]at h1;exact h1)
 have gs:gy (∀W,gR (fun j=>j=G (Q w)) w4 W->iX W (fun j=>G (Q w)+1<=j/\j<G (Q w3)) (Q6 ga n cr) H.gG):=gj (fun W le=>by have h0:=gn.o;rw[aj]at h0;rw[HN.o];have M:gR (fun j=>j=G (Q w)) w3 W:=(gR.gO gq.o).trans le;exact h0.iI M.size fun k C t l0 hk _ hF=>M.block k (gm hk) fun e'=>by have kC:G (Q w)+1<=k/\_:=hF;omega);have ej:gy (G (Q w3)+2=G (Q w4)):=gj gp.symm;have gt:gy (gR F w w4):=gj (h3.o.trans (gR.gO c6));have gu:gy (∀W,gR (fun j=>j=G (Q w)) w4 W->gZ W):=gj (fun W le=>by
  have lk:=HG.o.two;have M:gR (fun j=>F j\/j=G (Q w)) w W:=(gt.o.mono fun k=>.inl).trans (le.mono fun k=>.inr);refine HG.o.iI M.size (M.block _ (by omega) fun e=>?_);rcases e with e|e
  .have:=hV _ e;omega
  .omega)
 clear go c6 gp gn eg;go_wp2_with fail;go_loopw [10,11,12,43] (fun vv tv nv i wr=>∃k q r:Nat,k<=2/\i=I Y (k:Int)/\Af w4 (G (Q w)) (G (Q w)) h (jn H.gG) p d k q r vv tv nv wr) (fun _ _ _ i _=>2-(intOf i).toNat)
 case atStart=>exact⟨0,G (Q w3)+1,G (Q w3),by omega,rfl,⟨rfl,rfl,rfl,h5.o,⟨by have:=bP.o;omega,by have:=bP.o;omega,by have:=bP.o;omega⟩,h6.o,gR.refl _ _⟩⟩
 case round=>
  obtain⟨k,q,r,hk,rfl,hrel⟩:=hrel;obtain⟨rfl,rfl,rfl,bx,gv,bz,ak⟩:=hrel;have s:=gj bx;have c7:=gj gv;have R:=gj bz;have br:=gj ak;clear bx gv bz ak;by_cases av:k<2
  .have hw:(k:Int)<2:=by omega
   have gx:gy (k*p<=100):=gj (by
    obtain rfl|rfl:k=0\/k=1:=by omega
    .omega
    .omega)
   have h8:gy (wrap64 ((k:Int)*(p:Int))=((k*p:Nat):Int)):=gj (by
    rw[<-Int.natCast_mul];have:=gx.o;generalize k*p=m at *
    exact IntWalk.wrap64_in (m:Int) (by omega))
   have hx:p<=37:=by omega
   have ca:gy (iX wr (fun j=>G (Q w)+1<=j/\j<G (Q w3)) (Q6 ga (2*p) cr) (H.gG.take (2*p))):=gj ((gs.o wr br.o).su HN.o (2*p) (by omega));have gz:gy ((H.gG.take (2*p)).map gN=d.take (2*p)):=gj (by rw[HD.o,List.map_take]);have g0:gy (∀b∈H.gG.take (2*p),O b=64):=gj fun b li=>cq.o b (eC li);have el:gy ((H.gG.take (2*p)).length<=1000):=gj (by rw[ax,<-HN.o];omega);have em:=gj (KG (d:=d) (p:=p) av);go_wp2_with fail;rw[h8.o];refine(Ea _ _ (H.gG.take (2*p)) (k*p) wr ca.o g0.o el.o (by have:=gx.o;omega)).mono ?_;rintro e w5 ⟨bR,st,tt,dv,data,rfl,bA,bB,bD⟩;rw[gz.o]at bD⊢;obtain⟨lf,u,rfl,-,-⟩:=bA.gU;have t6:Q8 (G (Q w5)) w5 (Ro w5 (Q1 #[I Re (st:Nat),Q6 lf (O data) u,I Y (tt:Nat)] 316)):=(Below.rf w5).alloc gH _;have R6:=gj (gB w5 (Q1 #[I Re (st:Nat),Q6 lf (O data) u,I Y (tt:Nat)] 316));have aE:=gj (bR.tn t6);have en:=gj (bA.below t6);have eo:=gj (fun b (e:(Q6 lf (O data) u).ownBlock=N b)=>ae (bB b e).2 t6.size);have er:=gj bD;clear bR bA bB bD t6 ca;go_upto_region 13 with fail;generalize Ro w5 (Q1 #[I Re (st:Nat),Q6 lf (O data) u,I Y (tt:Nat)] 316)=w6 at *
   have aa:gy (tF d p (k+1)=tF d p k->Af w4 (G (Q w)) (G (Q w)) h (jn H.gG) p d (k+1) q r (I Re ((tF d p k).2.2.1:Nat)) (Q5 (N ⟨q,0,J⟩)) (I Re ((tF d p k).1:Nat)) w6):=gj (fun e=>⟨by rw[e],by rw[e],rfl,by rw[e];exact s.o.below aE.o,c7.o,by rw[e];exact gC aE.o (gm R.o) R.o,br.o.trans (gR.gO aE.o)⟩);have x0:=gr 0 R6.o;have x1:=gr 1 R6.o;have c8:=gm R6.o;obtain⟨nw,eD⟩:∃nw,nw=(tF d p k).1:=⟨_,rfl⟩;have g1:=gj eD;rw[<-eD]at aa⊢;clear eD;cases lc:kP (d.take (2*p)) (k*p) with
   | none=>
    have X:=gj (aa.o (by rw[em.o];unfold p6;rw[lc]));clear lc;go_wp2;go_roundw
    case rel=>exact⟨k+1,q,r,by omega,by go_num,X.o⟩
    case measure=>simp[intOf];omega
   | some x=>
    have M:=er.o x lc;by_cases am:nw<st
    .have bE:(nw:Int)<(st:Int):=by omega
     have eS:gy (O data<=im):=gj (by
      obtain⟨m,-,-,cb,a8,-⟩:=lY.1 lc;have av:=(lY.1 lc).lt.2;rw[M]at cb a8;have hm:m<=300:=by
       rw[M]at av;have bH:(d.take (2*p)).length<=n:=by rw[ax];omega
       simp only at cb av;omega
      have:=yv g0.o (at':=k*p) hm;rw[gz.o]at this;simp only at a8;rw[a8];unfold im;omega)
     have g2:gy (tF d p (k+1)=match ni data with
      | some (v,t)=>(st,k,v,t)
      | none=>tF d p k):=gj (by rw[em.o];unfold p6;rw[lc,M];simp only;rw[aw (by rw[<-g1.o];exact am)];cases ni data<;>rfl)
     clear lc M am;go_wp2_with fail;refine(vW (Q6 lf (O data) u) data w6 en.o eo.o eS.o (gu.o w6 (br.o.trans (gR.gO aE.o)))).mono ?_;rintro e w7 ⟨ag,bc⟩;have cc:=gj (aE.o.tn ag);have R7:=gj (gC ag c8 R6.o);cases l:kJ data with
     | inr f=>
      obtain⟨lx,fp⟩:=f;rw[l]at bc;obtain⟨ev,rfl,g,rfl,-,-⟩:=bc;have X:gy (Af w4 (G (Q w)) (G (Q w)) h (jn H.gG) p d (k+1) q r (I Re ((tF d p k).2.2.1:Nat)) (Q5 (N ⟨q,0,J⟩)) (I Re (nw:Nat)) w7):=gj (by
       have e:tF d p (k+1)=tF d p k:=by rw[g2.o];unfold ni;rw[l]
       obtain⟨a1,a2,a3,a4,a5,lo,a7⟩:=aa.o e;exact⟨a1,a2,a3,a4.below ag,a5,gC ag (gm lo) lo,a7.trans (gR.gO ag)⟩)
      clear ag l;go_wp2;go_roundw
      case rel=>exact⟨k+1,q,r,by omega,by go_num,X.o⟩
      case measure=>simp[intOf];omega
     | inl y=>
      obtain⟨vn,S⟩:=y;rw[l]at bc;obtain⟨r',rfl,g3,g4⟩:=bc;have eV:=gj g3;have ia:=gj g4;have g5:=gj (show jl w7 (G (Q w)) h ⟨jn H.gG,(tF d p k).2.1,0⟩from gC cc.o (gm R.o) R.o);have cd:=g5.o;unfold jl at cd;have l2:=gr 2 cd;have z2:=gD 2 cd;have e0:=gm cd;have y0:=gr 0 R7.o;have kk:=gm R7.o;have c9:gy (tF d p (k+1)=(st,k,vn,S)):=gj (by rw[g2.o];unfold ni;rw[l]);have X:gy (Af w4 (G (Q w)) (G (Q w)) h (jn H.gG) p d (k+1) (r'+1) r' (I Re (vn:Nat)) (Q5 (N ⟨r'+1,0,J⟩)) (I Re (st:Nat)) (Rp w7 ⟨G (Q w),2,J⟩ (I Y (k:Int)))):=gj (by have M:gR (fun j=>j=G (Q w)) w7 (Rp w7 ⟨G (Q w),2,J⟩ (I Y (k:Int))):=(gR.refl (fun j=>j=G (Q w)) w7).setCell ⟨G (Q w),2,J⟩ _ (.inl rfl);have l1:=br.o.size;have mb:=aE.o.size;have lk:=bP.o;have lv:=ej.o;have ly:=ia.o;refine⟨by rw[c9.o],by rw[c9.o],rfl,by rw[c9.o];exact⟨M.cell (p:=⟨r'+1,0,J⟩) (fun e:r'+1=G (Q w)=>by omega) eV.o.cell,eV.o.jh.iI (M.block _ eV.o.jh.lt (fun e:r'=G (Q w)=>by omega))⟩,⟨by omega,by omega,by omega⟩,by rw[c9.o];exact QN _ _ 2 _ g5.o,(br.o.trans (gR.gO cc.o)).trans M⟩);clear g3 g4 cd ag l;go_wp2;go_roundw
      case rel=>exact⟨k+1,r'+1,r',by omega,by go_num,X.o⟩
      case measure=>simp[intOf];omega
    .have bE:¬(nw:Int)<(st:Int):=by omega
     have X:=gj (aa.o (by rw[em.o];unfold p6;rw[lc,M];simp only;rw[af (by rw[<-g1.o];exact am)]));clear lc M am;go_wp2;go_roundw
     case rel=>exact⟨k+1,q,r,by omega,by go_num,X.o⟩
     case measure=>simp[intOf];omega
  .obtain rfl:k=2:=by omega
   obtain⟨s0,v0,tb,f1,f2⟩:=eb.o.found;have e2:tF d p 2=(s0,iC,v0,tb):=f1;rw[e2]at s R⊢;have g6:=gj f2;have ic:gy (v0<18446744073709551615):=gj (by have h:=JD d p;rw[f1]at h;exact h);have ii:¬((2:Nat):Int)<2:=by omega
   clear f1 f2 e2;simp only at s R⊢;have ce:=R.o;unfold jl at ce;have l3:=gr 3 ce;have z3:=gD 3 ce;have e0:=gm ce;have hx:p<=37:=by omega
   have ip:=@run_makeMap prog;clear ce;have e3:gy (∀W,W=((Rp wr ⟨G (Q w),3,J⟩ (I Y (2*(p:Int)))).alloc (.map #[] 0)).alloc (.map #[] 0)->jl W (G (Q w)) h ⟨jn H.gG,iC,2*p⟩/\jt W q 0 r tb/\U.ix W (G (Q wr)) []/\U.ix W (G (Q wr)+1) []/\G (Q W)=G (Q wr)+2/\gR (fun j=>j=G (Q w)) w4 W):=gj (by
    rintro W rfl;have M:gR (fun j=>j=G (Q w)) wr (Rp wr ⟨G (Q w),3,J⟩ (I Y (2*(p:Int)))):=(gR.refl (fun j=>j=G (Q w)) wr).setCell ⟨G (Q w),3,J⟩ _ (.inl rfl);have iv:q≠G (Q w):=c7.o.2.2;have i0:r≠G (Q w):=fun e=>by have hl:=R.o;unfold jl at hl;exact s.o.jh.mZ hl e.symm
    have he:jt (Rp wr ⟨G (Q w),3,J⟩ (I Y (2*(p:Int)))) q 0 r tb:=⟨M.cell (p:=⟨q,0,J⟩) iv s.o.cell,s.o.jh.iI (M.block _ s.o.jh.lt i0)⟩;have li:Q8 (Rp wr ⟨G (Q w),3,J⟩ (I Y (2*(p:Int)))).heap.size (Rp wr ⟨G (Q w),3,J⟩ (I Y (2*(p:Int)))) (((Rp wr ⟨G (Q w),3,J⟩ (I Y (2*(p:Int)))).alloc (.map #[] 0)).alloc (.map #[] 0)):=Below.al (Below.al (Below.rf _) _) _;have e4:=QN _ _ 3 (I Y (2*(p:Int))) R.o;have m1:=U.ix.new (Rp wr ⟨G (Q w),3,J⟩ (I Y (2*(p:Int))));have m2:=U.ix.new ((Rp wr ⟨G (Q w),3,J⟩ (I Y (2*(p:Int)))).alloc (.map #[] 0));rw[QO]at m1;rw[aj,QO]at m2;refine⟨?_,he.below li,m1.iI (heap_alloc_old _ _ m1.lt),m2,by rw[aj,aj,QO],(br.o.trans M).trans (gR.gO li)⟩;have h9:=gC li (gm e4) e4;rw[show(2:Int)*(p:Int)=((2*p:Nat):Int) by omega]at h9⊢;exact h9)
   go_upto_region 22 with fail;generalize hA:((Rp wr ⟨G (Q w),3,J⟩ (I Y (2*(p:Int)))).alloc (.map #[] 0)).alloc (.map #[] 0)=V at *
   obtain⟨e5,cu,e6,e7,cv,hB⟩:gy (jl V (G (Q w)) h ⟨jn H.gG,iC,2*p⟩)/\gy (jt V q 0 r tb)/\gy (U.ix V (G (Q wr)) [])/\gy (U.ix V (G (Q wr)+1) [])/\gy (G (Q V)=G (Q wr)+2)/\gy (gR (fun j=>j=G (Q w)) w4 V):=by obtain⟨a1,a2,a3,a4,a5,lo⟩:=e3.o V rfl;exact⟨gj a1,gj a2,gj a3,gj a4,gj a5,gj lo⟩
   have da:gy (G (Q w4)<=G (Q wr)):=gj br.o.size;have cg:=c7;have dc:gy (q<G (Q wr)/\r<G (Q wr)):=gj ⟨s.o.lt,s.o.jh.lt⟩;clear e3 hA s R l3 z3 e0 ip br c7;obtain⟨r1,e8⟩:∃r1,r1=G (Q wr):=⟨_,rfl⟩;have kD:=gj e8;rw[<-e8]at e6 e7 cv da dc⊢;clear e8;go_loopw [21] (fun i wx=>∃(k:Nat) (L1 L2:List (U.K×Q4)),2*p<=k/\k<=n/\i=I Y (k:Int)/\U.ix wx r1 L1/\U.ix wx (r1+1) L2/\qZ wx (G (Q V)) L1 L2 (mM d p k)/\gR (fun j=>j=r1\/j=r1+1) V wx) (fun i _=>n-(intOf i).toNat)
   case atStart=>exact⟨2*p,[],[],aq _,by omega,by simp,e6.out,e7.out,(fun ver=>by unfold mM;rw[ee];exact⟨rfl,rfl⟩),gR.refl _ _⟩
   case round=>
    obtain⟨k,L1,L2,g7,hk,rfl,bS,ci,cl,ak⟩:=hrel;have e9:gy (gR (fun j=>j=G (Q w)) w4 wr):=gj (hB.out.j8 ak fun i e=>.inr (by have:=da.o;rcases e with e|e<;>omega));have bX:=gj bS;have b0:=gj ci;have cm:=gj cl;have b1:=gj ak;clear bS ci cl ak;by_cases av:k<n
    .have hw:(k:Int)<(n:Int):=by omega
     have ca:gy (iX wr (fun j=>G (Q w)+1<=j/\j<G (Q w3)) (Q6 ga n cr) H.gG):=gj (gs.o wr e9.o);have el:gy (O H.gG<=1000):=gj (by rw[<-HN.o];omega);go_wp2_with fail;refine(Ea _ _ H.gG k wr ca.o cq.o el.o (by omega)).mono ?_;rintro e w5 ⟨bR,st,tt,dv,data,rfl,bA,bB,bD⟩;rw[<-HD.o]at bD⊢;obtain⟨lf,u,rfl,-,-⟩:=bA.gU;have t6:Q8 (G (Q w5)) w5 (Ro w5 (Q1 #[I Re (st:Nat),Q6 lf (O data) u,I Y (tt:Nat)] 316)):=(Below.rf w5).alloc gH _;have R6:=gj (gB w5 (Q1 #[I Re (st:Nat),Q6 lf (O data) u,I Y (tt:Nat)] 316));have aE:=gj (bR.tn t6);have en:=gj (bA.below t6);have eo:=gj (fun b (e:(Q6 lf (O data) u).ownBlock=N b)=>ae (bB b e).2 t6.size);have er:=gj bD;have i1:=gj bR;clear bR bA bB bD t6 ca;go_upto_region 25 with fail;generalize Ro w5 (Q1 #[I Re (st:Nat),Q6 lf (O data) u,I Y (tt:Nat)] 316)=w6 at *
     have aa:gy (∀W,Q8 (G (Q wr)) wr W->(∀ver,mM d p (k+1) ver=mM d p k ver)->∃(k':Nat) (L1 L2:List (U.K×Q4)),2*p<=k'/\k'<=n/\I Y ((k:Int)+1)=I Y (k':Int)/\U.ix W r1 L1/\U.ix W (r1+1) L2/\qZ W (G (Q V)) L1 L2 (mM d p k')/\gR (fun j=>j=r1\/j=r1+1) V W):=gj (fun W le ld=>by refine⟨k+1,L1,L2,by omega,by omega,by simp,bX.o.iI (le.block _ bX.o.lt),b0.o.iI (le.block _ b0.o.lt),?_,b1.o.trans (gR.gO le)⟩;rw[show mM d p (k+1)=mM d p k from funext ld];exact qZ.frame cm.o (D:=fun _=>False) (gR.gO le) fun _ h=>h.elim);have x0:=gr 0 R6.o;have x1:=gr 1 R6.o;have x2:=gr 2 R6.o;have c8:=gm R6.o;cases lc:kP d k with
     | none=>
      have X:=gj (aa.o w6 aE.o (fun ver=>by rw[zE d p k ver g7];unfold mx;rw[lc]));clear lc;go_wp2;go_roundw
      case rel=>exact X.o
      case measure=>simp[intOf];omega
     | some x=>
      have M:=er.o x lc;have eS:gy (O data<=im):=gj (by
       obtain⟨m,-,-,cb,a8,-⟩:=lY.1 lc;have av:=(lY.1 lc).lt.2;rw[M]at cb a8;have hm:m<=300:=by rw[M]at av;simp only at cb av;omega
       have:=yv cq.o (at':=k) hm;rw[<-HD.o]at this;simp only at a8;rw[a8];unfold im;omega)
      have i3:gy (tt<=1000):=gj (by have av:=(lY.1 lc).lt.2;rw[M]at av;simp only at av;omega)
      have fb:gy (∀ver,mM d p (k+1) ver=match og data with
       | some (v,o)=>if v=ver/\((mM d p k ver).elim 0 (·.1))<st then N (st,tt,o)else mM d p k ver
       | none=>mM d p k ver):=gj (fun ver=>by rw[zE d p k ver g7];unfold mx;rw[lc,M];simp only;cases og data<;>rfl)
      clear lc M;go_wp2_with fail;refine(Aq (Q6 lf (O data) u) data w6 en.o eo.o eS.o (gu.o w6 (e9.o.trans (gR.gO aE.o)))).mono ?_;rintro e w7 ⟨ag,bc⟩;have cc:=gj (aE.o.tn ag);have R7:=gj (gC ag c8 R6.o);have hC:gy (G (Q w6)<=G (Q w7)):=gj ag.size;cases l:tR data with
      | inr f=>
       obtain⟨lx,fp⟩:=f;rw[l]at bc;obtain⟨ev,rfl,g,rfl,-,-⟩:=bc;have X:=gj (aa.o (Ro w7 (Q1 #[I Re 0,Q6 J 0 0] 51)) (cc.o.tn ((Below.rf w7).alloc gH _)) (fun ver=>by rw[fb.o];unfold og;rw[l]));clear ag l;go_wp2;go_roundw
       case rel=>exact X.o
       case measure=>simp[intOf];omega
      | inl y=>
       obtain⟨vn,os⟩:=y;rw[l]at bc;obtain⟨sv,rfl,b5⟩:=bc;obtain⟨sa,bo,rfl⟩:=b5.shape;have fd:=l;rw[qD]at fd;have cn:=(xz _ _ _ fd).1;have g8:gy (vn<18446744073709551615/\O os<=8):=gj (by
        refine⟨?_,(qq cn).1⟩;unfold lF at cn;split at cn
        .cases cn
        .rename_i hv;exact ml (by simpa using hv))
       have g9:gy (og data=N (vn,os)):=gj (AQ l);have t8:Q8 (G (Q w7)) w7 (Ro w7 (Q1 #[I Re (vn:Nat),Q6 sa (O os) bo] 51)):=(Below.rf w7).alloc gH _;have D8:=gj (gB w7 (Q1 #[I Re (vn:Nat),Q6 sa (O os) bo] 51));have co:=gj (cc.o.tn t8);have R8:=gj (gC t8 (gm R7.o) R7.o);have hb:=gj ((b5.mono (show(G (Q V))<=G (Q w6)from au b1.o.size aE.o.size)).below t8);clear fd cn b5 ag t8 l;go_upto_region 27 with fail;generalize Ro w7 (Q1 #[I Re (vn:Nat),Q6 sa (O os) bo] 51)=w8 at *
       have cB:gy (U.ix w8 r1 L1):=gj (bX.o.iI (co.o.block _ bX.o.lt));have c0:gy (U.ix w8 (r1+1) L2):=gj (b0.o.iI (co.o.block _ b0.o.lt));obtain⟨cur,c1⟩:∃cur,cur=(mM d p k vn).elim 0 (·.1):=⟨_,rfl⟩;have hd:=gj c1;have hD:∃fi fk,(U.rV vn L1).getD (Q9 #[I Re 0,Q6 J 0 0,I Y 0])=Q9 #[I Re (cur:Nat),fi,fk]:=by
        have h1:=cm.o vn;rw[c1];cases ld:mM d p k vn with
        | none=>rw[ld]at h1;rw[h1.1];exact⟨_,_,rfl⟩
        | some y=>obtain⟨s',t',o'⟩:=y;rw[ld]at h1;obtain⟨-,-,-,kE,kF,kN,kO,a5,-⟩:=h1;rw[a5];exact⟨_,_,rfl⟩
       obtain⟨fi,fk,fl⟩:=hD;have a6:=cB.o.lookup (mt:=319) underlying319 (Ed w8) vn;rw[fl]at a6;unfold U.kV at a6;have hE:=fun w=>Gc (I Re (cur:Nat)) fi fk w Re (cur:Nat) rfl;have y0:=gr 0 R8.o;have y1:=gr 1 R8.o;have y2:=gr 2 R8.o;have d0:=gr 0 D8.o;have d1:=gr 1 D8.o;have i4:=gm R8.o;have i5:=gm D8.o;clear c1 fl x0 x1 x2 c8;by_cases am:cur<st
       .have bE:(cur:Int)<(st:Int):=by omega
        have cp:gy (∀ver,mM d p (k+1) ver=if ver=vn then N (st,tt,os)else mM d p k ver):=gj (fun ver=>by
         rw[fb.o,g9.o];simp only;by_cases e:ver=vn
         .subst e;rw[aw ⟨rfl,by rw[<-hd.o];exact am⟩,aw rfl]
         .rw[af (fun h=>e h.1.symm),af e])
        go_upto_region 28 with fail;have hG:r1<G (Q wr)/\r1+1<G (Q wr):=⟨bX.o.lt,b0.o.lt⟩;have lz:=i1.o.size;have i6:=hC.o;have i7:G (Q w5)<G (Q w6):=gm R6.o;obtain⟨W1,dk,bS,bk,b9⟩:=cB.o.update (mt:=319) underlying319 vn (Q9 #[I Re (st:Nat),Q6 lf (O data) u,I Y (tt:Nat)]);obtain⟨W2,dl,ci,bL,hf⟩:=(c0.o.iI (w':=W1) (bk.block _ c0.o.lt (fun e=>by cases e))).update (mt:=320) underlying320 vn (Q9 #[I Re (vn:Nat),Q6 sa (O os) bo]);have i8:W1.heap[G (Q w5)]?=_:=(bk.block _ i4 (fun e=>by cases e;omega)).trans R8.o;have dn:W1.heap[G (Q w7)]?=_:=(bk.block _ i5 (fun e=>by cases e;omega)).trans D8.o;have p0:=gr 0 dn;have p1:=gr 1 dn;have kq:=gm dn;have hH:gy (U.ix W2 r1 (U.qH vn (Q9 #[I Re (st:Nat),Q6 lf (O data) u,I Y (tt:Nat)]) L1)):=gj (bS.iI (bL.block _ bS.lt (fun e=>by cases e)));have hI:=gj ci;have fn:gy (gR (fun j=>j=r1\/j=r1+1) w8 W2):=gj ((⟨bk.os,bk.tape,bk.output,bk.size,fun j lq fo=>bk.block j lq fun e=>fo (.inl (by cases e;rfl))⟩:gR (fun j=>j=r1\/j=r1+1) w8 W1).trans ⟨bL.os,bL.tape,bL.output,bL.size,fun j lq fo=>bL.block j lq fun e=>fo (.inr (by cases e;rfl))⟩);have i9:gy (G (Q W2)=G (Q w8)):=gj (by rw[hf,b9]);have fr:gy (∀m,∃(k':Nat) (L1 L2:List (U.K×Q4)),2*p<=k'/\k'<=n/\I Y ((k:Int)+1)=I Y (k':Int)/\U.ix (W2.drewN m) r1 L1/\U.ix (W2.drewN m) (r1+1) L2/\qZ (W2.drewN m) (G (Q V)) L1 L2 (mM d p k')/\gR (fun j=>j=r1\/j=r1+1) V (W2.drewN m)):=gj (fun m=>by
         refine⟨k+1,_,_,by omega,by omega,by simp,hH.o,hI.o,fun ver=>?_,((b1.o.trans (gR.gO co.o)).trans fn.o).drewN m⟩;rw[cp.o ver,U.tK _ _ _ cB.o.Gr,U.tK _ _ _ c0.o.Gr];have jj:=cv.out;by_cases e:ver=vn
         .subst e;rw[aw rfl,aw rfl,aw rfl];refine⟨g8.o.1,i3.o,g8.o.2,_,_,_,_,rfl,rfl,?_⟩;exact hb.o.frame (by rw[show(W2.drewN m).heap.size=G (Q W2)from rfl,i9.o];exact aq _) fun b e li=>fn.o.block b li fun h=>by have:=hb.o.ie b e;omega
         .rw[af e,af e,af e];exact qZ.frame cm.o (D:=fun j=>j=r1\/j=r1+1) (((gR.gO co.o).trans fn.o).drewN m) (fun j h=>by omega) ver)
        unfold U.kV at dk dl;have hL:=dk 0;have hM:=dk 1;have hN:=dl 0;have hO:=dl 1;have fx:∀w:Q0,w.drewN 1=w.drew:=fun _=>rfl;have fz:∀w:Q0,w.drewN 0=w:=fun _=>rfl;rw[fx,fx]at hM hO;rw[fz,fz]at hL hN;clear fx fz dk dl bS ci bk bL b9 hf i8 dn am a6 hE hG lz i6 i7;go_region
        all_goals
         go_wp2;go_roundw
         case rel=>first|exact fr.o 0|exact fr.o 1
         case measure=>simp[intOf];omega
       .have bE:¬(cur:Int)<(st:Int):=by omega
        have X:=gj (aa.o w8 co.o (fun ver=>by
         rw[fb.o,g9.o];simp only;by_cases e:vn=ver
         .subst e;rw[af (fun h=>am (by rw[hd.o];exact h.2))]
         .rw[af (fun h=>e h.1)]))
        clear am;go_wp2;go_roundw
        case rel=>exact X.o
        case measure=>simp[intOf];omega
    .obtain rfl:k=n:=by omega
     have ii:¬(k:Int)<(k:Int):=by omega
     have dp:mM d p k=DO og d (kH d p):=by funext ver;unfold mM DO kH;rw[hX]
     have cp:=gj dp;clear dp;go_upto_region 29 with fail;obtain⟨pk,cl⟩:∃pk,pk=mM d p k:=⟨_,rfl⟩;rw[<-cl]at cm cp;rw[<-cp.o]at g6;clear cl cp eb e6 e7;go_loopw [10,12] (fun vv nv wx=>O5 wr (G (Q V)) r1 (G (Q w)) h q r (jn H.gG) iC s0 v0 p tb L1 L2 pk vv nv wx) (fun vv _ _=>18446744073709551616-(intOf vv).toNat)
     case atStart=>exact⟨0,s0,v0,2*p,tb,rfl,rfl,ic.o,⟨b1.o.cell (p:=⟨q,0,none⟩) (show ¬(q=r1\/q=r1+1)from by have:=dc.o;omega) cu.out.cell,cu.out.jh.iI (b1.o.block _ cu.out.jh.lt fun e=>by have:=dc.o;omega)⟩,(b1.o.block _ (gm e5.out) fun e=>by have:=da.o;have:=bP.o;have:=ej.o;omega).trans e5.out,bX.o,b0.o,cm.o,fun _=>rfl,gR.refl _ _⟩
     case round=>
      obtain⟨j,st,v',nx,T',rfl,rfl,kT,bx,bz,hg,hh,hi,hj,ak⟩:=hrel
      rename Q0=>wl
      have s:=gj bx;have R:=gj bz;have c3:=gj hg;have bM:=gj hh;have hn:=gj hi;have ho:=gj hj;have hp:=gj ak;have hr:IntKind.u64.wrap ((v':Int)+1)=((v'+1:Nat):Int):=by rw[show((v':Int)+1)=((v'+1:Nat):Int) by omega];exact IntWalk.u64_in _ (by omega)
      have kU:=gj hr;obtain⟨v1,fB⟩:∃v1,v1=v'+1:=⟨_,rfl⟩;have ds:=gj fB;rw[<-fB]at hr;have a6:=c3.o.mX (mt:=319) underlying319 (Ed _) v1;have Z:=bM.o.lookup (mt:=320) underlying320 (Ec _) v1;have h1:=hn.o v1;have hs:gy (gR (fun i=>G (Q w)<=i) w4 wl):=gj ((e9.o.mono fun i e=>by rw[e];exact aq _).trans (hp.o.mono fun i e=>by rcases e with e|e;rw[e];exact aq _;rw[e];exact cg.out.2.1));have dT:gy (∀W,Q8 (G (Q wl)) wl W->(pk v1=J\/∃a b o,pk v1=N (a,b,o)/\a<st)->∃lg q' r',Ra (Rc #[Q5 (N ⟨G (Q w),0,J⟩),I Re (v':Nat),Q5 (N ⟨q,0,J⟩),.nilIface])=Ra (Rc #[Q5 (N ⟨lg,0,J⟩),I Re (v:Nat),Q5 (N ⟨q',0,J⟩),.nilIface])/\jl W lg h ⟨jn H.gG,iC,next⟩/\jt W q' 0 r' T/\G (Q w)<=lg/\G (Q w)<=q'/\G (Q w)<=r'/\q'≠lg/\iU W F h (ja H).1/\gR F w W):=gj (fun W le lA=>by have h1:=Ik ho.o (by rw[<-ds.o];exact lA) (O d);rw[g6.o _ (by omega)]at h1;injection h1 with h1 lk;injection lk with lk lv;subst h1 lk lv;refine⟨G (Q w),q,r,rfl,gC le (gm R.o) R.o,s.o.below le,aq _,cg.out.1,cg.out.2.1,cg.out.2.2,?_,(gt.o.j8 hs.o fun i e=>.inr e).trans (gR.gO le)⟩;exact h2.o.ext (S:=fun i=>G (Q w)<=i) ((gR.gO gq.o).trans (hs.o.trans (gR.gO le))) fun k hk e=>by have:=hY.o k hk;omega);clear bx bz hg hh hi hj ak fB;cases ld:pk v1 with
      | none=>rw[ld]at h1;rw[h1.1]at a6;unfold U.kV at a6;simp only[Option.getD_none,fS]at a6;have d2:=gj ld;have bs:gy (Q8 (G (Q wl)) wl (Ro wl (Q1 #[I Re 0,Q6 J 0 0,I Y 0] 316))):=gj ((Below.rf wl).alloc gH _);clear ld h1 Z;go_wp2;refine ai (v:=Rc #[Q5 (N ⟨G (Q w),0,J⟩),I Re (v':Nat),Q5 (N ⟨q,0,J⟩),.nilIface]) (by simp[results,results173,go_sem]) rfl ?_;exact dT.o _ bs.o (.inl d2.o)
      | some y=>
       obtain⟨bt,bN,os⟩:=y;rw[ld]at h1;obtain⟨lr,b2,lC,ta,tn,tc,sv,b4,ls,b6⟩:=h1;rw[b4]at a6;rw[ls]at Z;have ht:=ls;unfold U.kV at a6 Z;simp only[bZ,fT]at a6 Z;obtain⟨sa,bo,rfl⟩:=b6.shape;have HO:=gj b6;have d2:=gj ld;have t6:Q8 (G (Q wl)) wl (Ro wl (Q1 #[I Re (bt:Nat),Q6 ta tn tc,I Y (bN:Nat)] 316)):=(Below.rf wl).alloc gH _;have R6:=gj (gB wl (Q1 #[I Re (bt:Nat),Q6 ta tn tc,I Y (bN:Nat)] 316));have bs:=gj t6;clear ld b4 ls b6 t6;by_cases am:bt<st
       .have bE:(bt:Int)<(st:Int):=by omega
        clear Z;go_wp2;refine ai (v:=Rc #[Q5 (N ⟨G (Q w),0,J⟩),I Re (v':Nat),Q5 (N ⟨q,0,J⟩),.nilIface]) (by simp[results,results173,go_sem]) rfl ?_;exact dT.o _ bs.o (.inr ⟨_,_,_,d2.o,am⟩)
       .have bE:¬(bt:Int)<(st:Int):=by omega
        clear Z;go_upto_region 33 with fail;generalize Ro wl (Q1 #[I Re (bt:Nat),Q6 ta tn tc,I Y (bN:Nat)] 316)=wA at *
        have Z:=(show U.ix wA.drew (r1+1) L2 from bM.o.iI (bs.o.block _ bM.o.lt)).lookup (mt:=320) underlying320 (Ec _) v1;rw[ht]at Z;unfold U.kV at Z;simp only[bZ]at Z;go_still_tail 7,(by kernel_rfl);go_wp2_with fail;refine(Dj q 0 r T' v1 (Q6 sa (O os) bo) os wA.drew ⟨(s.o.below bs.o).cell,(s.o.below bs.o).jh.iI rfl⟩ ((HO.o.below bs.o).sliceAt.below ((Below.rf wA).drew)) (by omega)).mono ?_;rintro e w2 ⟨rfl,fR,bw⟩;have f0:r≠G (Q w):=fun e=>by have hl:=R.o;unfold jl at hl;exact s.o.jh.mZ hl e.symm
        have j0:r<G (Q wl):=s.o.jh.lt;have R2:w2.heap[G (Q wl)]?=_:=(bw.block _ (show(G (Q wl))<wA.drew.heap.size from gm R6.o) (fun e=>by omega)).trans R6.o;have d3:gR (fun i=>i=r) wl w2:=(gR.gO bs.o).drew.trans bw;have bH:jl w2 (G (Q w)) h ⟨jn H.gG,iC,nx⟩:=(d3.block _ (gm R.o) (fun e=>f0 e.symm)).trans R.o;have X:gy (O5 wr (G (Q V)) r1 (G (Q w)) h q r (jn H.gG) iC s0 v0 p tb L1 L2 pk (I Re (v1:Nat)) (I Re (bt:Nat)) (Rp w2 ⟨G (Q w),3,J⟩ (I Y (bN:Nat)))):=gj (by have f3:gR (fun i=>i=G (Q w)) w2 (Rp w2 ⟨G (Q w),3,J⟩ (I Y (bN:Nat))):=(gR.refl (fun i=>i=G (Q w)) w2).setCell ⟨G (Q w),3,J⟩ _ (.inl rfl);have d4:gR (fun i=>i=G (Q w)\/i=r) wl (Rp w2 ⟨G (Q w),3,J⟩ (I Y (bN:Nat))):=(d3.mono fun _=>.inr).trans (f3.mono fun _=>.inl);have jj:=cv.out;have ly:=da.o;have h9:=bP.o;have kW:=ej.o;have k0:=dc.o;refine⟨j+1,bt,v1,bN,iO T' os,rfl,rfl,lr,⟨f3.cell (p:=⟨q,0,J⟩) (show ¬q=G (Q w)from cg.out.2.2) (d3.cell (p:=⟨q,0,J⟩) s.o.ne s.o.cell),fR.iI (f3.block _ fR.lt f0)⟩,QN _ _ 3 _ bH,c3.o.iI (d4.block _ c3.o.lt (show ¬(r1=G (Q w)\/r1=r) by omega)),bM.o.iI (d4.block _ bM.o.lt (show ¬(r1+1=G (Q w)\/r1+1=r) by omega)),hn.o.frame d4 (fun i e=>by omega),?_,hp.o.trans d4⟩;have hc:=FN ho.o (by rw[<-ds.o];exact d2.o) am;rw[<-ds.o]at hc;exact hc);have x2:=gr 2 R2;have x0:=gr 0 R2;have kA:=gm R2;unfold jl at bH;have l3:=gr 3 bH;have z3:=gD 3 bH;have e0:=gm bH;have j1:=gj lr;clear R2 d3 bH fR bw a6 Z ht lr b2 lC f0 j0;go_wp2;go_roundw
        case rel=>exact X.o
        case measure=>have h1:=ds.o;have lk:=j1.o;simp[intOf];omega
open Go.Conc
theorem Lo{P:Program}{d:Goroutine→Q0→Prop}{iS:Array Oper}{i:Nat}{rest:List Nat}{o:Oper}{b:Frame}{a:Act}{k:List Item}{cs:List Frame}{f:FuncId}{fn:Func}{args:Array Operand}{r:Array Ri}{R:Ending→Q0→Prop}(y:iS[i]?=N o)(B:Region.wanted o (yielded iS a.tmps)=true)(hk:b.kind≠.early)(s:o.op=.call {callee:=.value (.func f),args,argTypes:=r})(C:P.funcs[f]?=N fn)(l:(fn.name == "runtime.NumGoroutine")=false)(D:fn.body.isNone=false)(j:Array Q4)(m:args.map a.eval=j)(E:Rg P f j w R)(q:∀e w',R e w'→∃v,e=Ra v∧LoneTo P d (Go.Conc.G (b.at (a.put ((iS[i]?).bind (·.dst)) v) (.inRegion iS rest::k)) cs) w'):LoneTo P d (Go.Conc.G (b.at a (.inRegion iS (i::rest)::k)) cs) w:=by subst m;refine LoneTo.step (step_solo_go rfl (stepG_enter y B hk (run_call_body s C l D))) ?_;obtain⟨e,w',U,F,M,S,hl⟩:=E (b.at a (.inRegion iS (i::rest)::k)::cs);obtain⟨v,rfl,hq⟩:=q e w' F;have h1:=step_leave_returned (c:=b.at a (.inRegion iS (i::rest)::k)) (cs:=cs) hl;rw[fL]at h1;obtain⟨g2,w2,u,x⟩:=hq;exact⟨g2,w2,Steps.trans M (Steps.head h1 u),x⟩
def tD(w:Q0)(d:Nat->Prop)(u:Q4)(b:gw):Prop:=gS w 0 1 u (O b) (l6 b)/\0<O b/\∀k,Rl u=N k->d k
def oM(w:Q0)(d:Nat->Prop)(c:Nat)(out:List gw):Prop:=
 ∃(s r:Nat) (vals:List Q4),w.heap[c]?=N (.chan 6 (Rm vals) false s r false)/\O vals=O out/\(∀(i:Nat) (b:gw),out[i]?=N b->∃u,vals[i]?=N u/\tD w d u b)/\vals.Pairwise fun u v=>Rl u≠Rl v
def yN(out:List gw)(k:UInt8)(body:gw):List gw:=if(O out)<6 then out++[vh k body]else out
theorem oM.below{out:List gw}(h:oM w d c out)(j:Q8 (G (Q w)) w w'):oM w' d c out:=by obtain⟨s,r,vals,h1,l,m,o⟩:=h;refine⟨s,r,vals,gC j (gm h1) h1,l,fun i b q=>?_,o⟩;obtain⟨u,x,f1,f2,f3⟩:=m i b q;exact⟨u,x,f1.below j,f2,f3⟩
theorem oM.mono{out:List gw}(h:oM w d c out)(l:∀j,d j->G' j):oM w G' c out:=by obtain⟨s,r,vals,h1,m,o,q⟩:=h;refine⟨s,r,vals,h1,m,fun i b x=>?_,q⟩;obtain⟨u,y,f1,f2,f3⟩:=o i b x;exact⟨u,y,f1,f2,fun k e=>l k (f3 k e)⟩
theorem oM.push{out:List gw}{b:gw}(o:Q8 (G (Q w)) w w1)(h1:w.heap[c]?=N (.chan 6 (Rm vals) false s r false))(F:O vals=O out)(M:∀(i:Nat) (b:gw),out[i]?=N b->∃u,vals[i]?=N u/\tD w d u b)(h4:vals.Pairwise fun u v=>Rl u≠Rl v)(hG:∀k,d k->k<G (Q w))(R:gS w1 (G (Q w)) 1 u (O b) (l6 b))(S:0<O b)(he:w'=w1.setChan c 6 (vals.toArray.push u) false (s+1) r false):
  oM w' (fun j=>d j\/(G (Q w)<=j/\j<G (Q w'))) c (out++[b])/\gR (fun j=>j=c) w w':=by
 have aE:=gm h1;have a0:=o.size;have a1:G (Q w')=G (Q w1):=by rw[he,size_setChan]
 have m:∀j,j≠c->w'.heap[j]?=w1.heap[j]?:=fun j q=>by rw[he];simp[World.setChan,cC (dW q)]
 have U:w'.heap[c]?=N (.chan 6 (vals++[u]).toArray false (s+1) r false):=by rw[he,heap_setChan w1 c 6 _ false (s+1) r false (by omega)];simp
 have B:=R.ie;obtain⟨hl,V⟩:=R;have W:∃g,Rl u=N g:=by
  rcases V with ⟨e,e2⟩|⟨g,off,cap,e,-⟩
  .omega
  .exact⟨g,by rw[e];rfl⟩
 have C:gS w' 0 1 u (O b) (l6 b):=(gS.mono ⟨hl,V⟩ ux).frame (by omega) fun j e _=>m j (by have:=B j e;omega);refine⟨⟨s+1,r,vals++[u],U,by rw[ab,ab,F];rfl,fun i x l=>?_,?_⟩,⟨?_,?_,?_,by omega,fun j q X=>(m j X).trans (o.block j q)⟩⟩
 .by_cases Z:i<O out
  .rw[cV Z]at l;obtain⟨v,E,f1,f2,f3⟩:=M i x l;refine⟨v,by rw[cV (by omega)];exact E,f1.frame (by omega) fun j e q=>(m j fun e'=>?_).trans (o.block j q),f2,fun j e=>.inl (f3 j e)⟩;obtain⟨-,⟨e0,e1⟩|⟨g,off,cap,e0,-,-,-,-,D,-⟩⟩:=f1
   .omega
   .rw[e0]at e;cases e;have hc:=D 0 (by rw[lJ];exact f2);unfold World.cell? at hc;rw[e',h1]at hc;cases hc
  .have aa:i=O out:=by
    have:=(aH.1 l).1;simp at this;omega
   subst aa;rw[cT gH,ee]at l;cases l;refine⟨u,by rw[cT (by omega),F,ee];rfl,C,S,fun j e=>.inr ⟨B j e,?_⟩⟩;exact gS.iA C j e
 .rw[dR];refine⟨h4,List.pairwise_singleton _ _,fun x hx y hy=>?_⟩;rw[ay]at hy;subst hy;intro e;obtain⟨g,hg⟩:=W;obtain⟨i,l⟩:=List.mem_iff_getElem?.1 hx;have a2:=(aH.1 l).1;obtain⟨v,E,f1,f2,f3⟩:=M i out[i] (ah (by omega));rw[E]at l;cases l;have h5:=hG g (f3 g (e.trans hg));have h6:=B g hg;omega
 .rw[he];exact o.os
 .rw[he];exact o.tape
 .rw[he];exact o.output
theorem vE(a c:Nat)(b:Nat->Prop)(out:List gw)(kind:UInt8)(v:Q4)(l:gw)(w:Q0)(hc:World.cell? w ⟨a,4,J⟩=N (.chan (N c)))(u:oM w b c out)(B:∀k,b k->k<G (Q w))(C:gI w v l)(hl:O l<=1000):
  Rg prog 148 #[Q5 (N ⟨a,0,J⟩),I .u8 (kind.toNat:Int),v] w fun e w'=>e=Ra (Rc #[])/\oM w' (fun j=>b j\/(G (Q w)<=j/\j<G (Q w'))) c (yN out kind l)/\gR (fun j=>j=c) w w':=by
 have R:=gK hc;refine calls_of_loneTo (fun cs=>?_);have e:Frame.enter prog 148 #[Q5 (N ⟨a,0,J⟩),I .u8 (kind.toNat:Int),v] .normal=(base 148).at ⟨#[Q5 (N ⟨a,0,J⟩),I .u8 (kind.toNat:Int),v,Rj,Rj,Rj,Rj,Rj,Rj,Rj,Rj,Rj,Rj,Rj,Rj,Rj],[]⟩ [.code (f148.body.getD .skip)]:=by simp[Frame.enter,Frame.at,func148,base,f148]
 rw[e];refine LoneTo.goes (n:=40) ?_;simp only[f148,bZ]
 s_c stepG_seq
 s_c stepG_seq
 s_reg
 s_op
 s_op
 s_op
 s_op
 s_c stepG_region_end
 s_reg
 s_op
 s_op
 s_stop
 refine Lo (fn:=f121) rfl rfl (by decide) rfl func121 (by kernel_rfl) (by kernel_rfl) #[I .u8 (kind.toNat:Int),v] (by simp[Act.eval]) (Mt kind v l w C (by unfold im;omega)) ?_;rintro e w1 ⟨i,rfl,m,o⟩;refine⟨i,rfl,?_⟩
 walk_nrm
 refine LoneTo.goes (n:=40) ?_
 s_c stepG_region_end
 s_c stepG_seq
 s_reg
 s_stop
 have x:=u;obtain⟨s,r,vals,h1,D,E,F⟩:=x;have y:(vh kind l).length=O l+5:=by simp[vh,yX]
 rw[<-y]at m;by_cases d:O out<6
 .refine LoneTo.step (step_lone_select_send_room (c:=c) (v:=i) (z':=Q6 J 0 0) (cap:=6) (buf:=Rm vals) (s:=s) (r:=r) (tm:=false)
   (stepG_comm (cases:=#[scase c i (Q6 J 0 0)]) (blocking:=false) (shape:=.select) (w':=w1) rfl rfl (by decide) (by simp[go_sem,execOp,scase,Act.eval])) (gC o (gm h1) h1) (by simp;omega)) ?_
  have q:=oM.push o h1 D E F B m (by omega) rfl;rw[fL]
  walk_nrm
  refine LoneTo.goes (n:=40) ?_
  s_op
  s_op
  s_c stepG_region_end
  s_c stepG_block
  s_cond true
  s_c stepG_skip
  s_c stepG_inBlock
  s_c stepG_end
  s_stop
  refine LoneTo.done ⟨Ra (Rc #[]),_,rfl,⟨rfl,?_⟩,rfl,rfl,rfl,rfl,_,func148,by simp[results,f148,Frame.at]⟩;unfold yN;rw[aw d];simpa using q
 .refine LoneTo.step (step_lone_select_send_full (c:=c) (v:=i) (z':=Q6 J 0 0) (cap:=6) (buf:=Rm vals) (s:=s) (r:=r) (tm:=false)
   (stepG_comm (cases:=#[scase c i (Q6 J 0 0)]) (blocking:=false) (shape:=.select) (w':=w1) rfl rfl (by decide) (by simp[go_sem,execOp,scase,Act.eval])) (gC o (gm h1) h1) (by simp;omega)) ?_
  rw[fL]
  walk_nrm
  refine LoneTo.goes (n:=40) ?_
  s_op
  s_op
  s_c stepG_region_end
  s_c stepG_block
  s_cond false
  s_c stepG_skip
  s_c stepG_inBlock
  s_c stepG_end
  s_stop
  refine LoneTo.done ⟨Ra (Rc #[]),_,rfl,⟨rfl,?_⟩,rfl,rfl,rfl,rfl,_,func148,by simp[results,f148,Frame.at]⟩;unfold yN;rw[af d];exact⟨(u.below o).mono fun j M=>.inl M,gR.gO o⟩
def Of(w:Q0)(d:Nat->Prop)(c:Nat)(e:Ending)(w':Q0):List gw->Prop
 | []=>e=Ra (Rc #[Q6 J 0 0,Rh false])/\w'=w
 | b::out=>∃u,e=Ra (Rc #[u,Rh true])/\tD w' d u b/\oM w' (fun j=>d j/\Rl u≠N j) c out/\gR (fun j=>j=c) w w'
theorem oM.pop{b:gw}{out:List gw}(h1:w.heap[c]?=N (.chan 6 (u::vals).toArray false s r false))(S:(u::vals).length=(b::out).length)(F:∀(i:Nat) (x:gw),(b::out)[i]?=N x->∃v,(u::vals)[i]?=N v/\tD w d v x)(y:(u::vals).Pairwise fun u v=>Rl u≠Rl v)(he:w'=w.setChan c 6 (Rm vals) false s (r+1) false):
  tD w' d u b/\oM w' (fun j=>d j/\Rl u≠N j) c out/\gR (fun j=>j=c) w w':=by
 have M:=gm h1;have V:G (Q w')=G (Q w):=by rw[he,size_setChan]
 have l:∀j,j≠c->w'.heap[j]?=w.heap[j]?:=fun j B=>by rw[he];simp[World.setChan,cC (dW B)]
 have o:∀v x,tD w d v x->tD w' d v x:=fun v x ⟨f1,f2,f3⟩=>⟨f1.frame (by omega) fun j e B=>l j fun C=>by
  obtain⟨-,⟨e0,W⟩|⟨g,off,cap,e0,-,-,-,-,m,-⟩⟩:=f1
  .omega
  .rw[e0]at e;cases e;have hc:=m 0 (by rw[lJ];exact f2);unfold World.cell? at hc;rw[C,h1]at hc;exact absurd hc (by simp),f2,f3⟩
 rw[fP]at y;refine⟨?_,⟨s,r+1,vals,?_,by simpa using S,fun i x U=>?_,y.2⟩,⟨by rw[he];rfl,by rw[he];rfl,by rw[he];rfl,by omega,fun j B R=>l j R⟩⟩
 .obtain⟨v,D,E⟩:=F 0 b rfl;cases D;exact o _ _ E
 .rw[he,heap_setChan w c 6 _ false s (r+1) false M]
 .obtain⟨v,D,E⟩:=F (i+1) x (by simpa using U);obtain⟨f1,f2,f3⟩:=o _ _ E;have q:vals[i]?=N v:=by simpa using D
  exact⟨v,q,f1,f2,fun k e=>⟨f3 k e,fun C=>y.1 v (be q) (C.trans e.symm)⟩⟩
theorem AD(a c:Nat)(d:Nat->Prop)(out:List gw)(w:Q0)(hc:World.cell? w ⟨a,4,J⟩=N (.chan (N c)))(m:oM w d c out):
  Rg prog 120 #[Q5 (N ⟨a,0,J⟩)] w fun e w'=>Of w d c e w' out:=by
 have x:=gK hc;refine calls_of_loneTo (fun cs=>?_) ?_
 rotate_left 1
 .intro w' h;cases out with
  | nil=>cases h.1
  | cons b out=>obtain⟨u,h,-⟩:=h;cases h
 have e:Frame.enter prog 120 #[Q5 (N ⟨a,0,J⟩)] .normal=(base 120).at ⟨#[Q5 (N ⟨a,0,J⟩),Rj,Rj,Rj,Rj,Rj,Rj,Rj,Rj,Rj,Rj,Rj,Rj,Rj],[]⟩ [.code (f120.body.getD .skip)]:=by simp[Frame.enter,Frame.at,func120,base,f120]
 rw[e];refine LoneTo.goes (n:=40) ?_;simp only[f120,bZ]
 s_c stepG_seq
 s_reg
 s_op
 s_op
 s_c stepG_region_end
 s_c stepG_seq
 s_reg
 s_op
 s_op
 s_op
 s_op
 s_c stepG_region_end
 s_c stepG_seq
 s_reg
 s_stop
 have l:=m;obtain⟨s,r,vals,h1,i,o,q⟩:=l;cases out with
 | nil=>
  obtain rfl:vals=[]:=ch (by simpa using i)
  refine LoneTo.step (step_lone_select_default (c:=c) (z:=Q6 J 0 0) (cap:=6) (s:=s) (r:=r) (tm:=false)
   (stepG_comm (cases:=#[rcase c (Q6 J 0 0)]) (blocking:=false) (shape:=.select) (w':=w) rfl rfl (by decide) (by simp[go_sem,execOp,rcase,Act.eval])) h1) ?_
  rw[fL]
  walk_nrm
  refine LoneTo.goes (n:=40) ?_
  s_op
  s_op
  s_c stepG_region_end
  s_c stepG_block
  s_cond false
  s_c stepG_seq
  s_reg
  s_op
  s_op
  s_c stepG_region_end
  s_c stepG_ret'
  s_stop
  exact LoneTo.done ⟨Ra (Rc #[Q6 J 0 0,Rh false]),_,rfl,⟨rfl,rfl⟩,rfl,rfl,rfl,rfl,_,func120,by simp[results,f120,Frame.at]⟩
 | cons b out=>
  cases vals with
  | nil=>simp at i
  | cons u vals=>
   refine LoneTo.step (step_lone_select_recv_buf (c:=c) (z:=Q6 J 0 0) (cap:=6) (buf:=(u::vals).toArray) (closed:=false) (s:=s) (r:=r) (tm:=false)
    (stepG_comm (cases:=#[rcase c (Q6 J 0 0)]) (blocking:=false) (shape:=.select) (w':=w) rfl rfl (by decide) (by simp[go_sem,execOp,rcase,Act.eval])) h1 (by simp)) ?_
   have j:=oM.pop h1 i o q rfl;rw[show(u::vals).toArray.extract 1 (u::vals).toArray.size=Rm vals by simp];rw[fL]
   walk_nrm
   refine LoneTo.goes (n:=40) ?_
   s_op
   s_op
   s_c stepG_region_end
   s_c stepG_block
   s_cond true
   s_c stepG_seq
   s_reg
   s_op
   s_op
   s_c stepG_region_end
   s_c stepG_seq
   s_reg
   s_op
   s_op
   s_op
   s_c stepG_region_end
   s_c stepG_ret'
   s_stop
   exact LoneTo.done ⟨Ra (Rc #[u,Rh true]),_,rfl,⟨u,rfl,j⟩,rfl,rfl,rfl,rfl,_,func120,by simp[results,f120,Frame.at]⟩
theorem oM.frame{out:List gw}(h:oM w d c out)(j:gR D w w')(hc:¬D c)(l:∀k,d k->¬D k):oM w' d c out:=by obtain⟨s,r,vals,h1,m,o,q⟩:=h;refine⟨s,r,vals,j.at hc h1,m,fun i b x=>?_,q⟩;obtain⟨u,y,f1,f2,f3⟩:=o i b x;exact⟨u,y,f1.frame j.size fun k e hk=>j.block k hk (l k (f3 k e)),f2,f3⟩
def Ef(w:Q0)(d:Nat->Prop)(v:Q4)(nQ:Nat):Option (Nat×Nat)->Prop
 | none=>v=Q5 J
 | some f=>∃b,v=Q5 (N ⟨b,0,none⟩)/\d b/\
  ((f.1≠12/\w.heap[b]?=N (Q1 #[I Y (f.1:Nat),I Y (f.2:Nat),.nilIface] 186 (0,0)))\/
   (f.1=12/\∃c,d c/\w.heap[b]?=N (Q1 #[I Y (f.1:Nat),I Y (f.2:Nat),Rb 188 (Q5 (N ⟨c,0,J⟩))] 186 (0,0))/\w.heap[c]?=N (Q1 #[I Y ((nQ:Int)-2)] 191 (0,0))))
theorem Ef.frame{v:Q4}(h:Ef w d v nQ f)(l:gR D w w')(m:∀k C q,d k->(w.heap[k]?=N (Q1 C 186 q)\/w.heap[k]?=N (Q1 C 191 q))->¬D k):Ef w' d v nQ f:=by
 cases f with
 | none=>exact h
 | some f=>
  obtain⟨b,h1,o,i⟩:=h;refine⟨b,h1,o,?_⟩;rcases i with ⟨i,j⟩|⟨i,c,j,r,s⟩
  .exact .inl ⟨i,l.at (m b _ _ o (.inl j)) j⟩
  .exact .inr ⟨i,c,j,l.at (m b _ _ o (.inl r)) r,l.at (m c _ _ j (.inr s)) s⟩
theorem Ef.mono{v:Q4}(h:Ef w d v nQ f)(j:∀k,d k->G' k):Ef w G' v nQ f:=by
 cases f with
 | none=>exact h
 | some f=>obtain⟨b,h1,l,i⟩:=h;exact⟨b,h1,j b l,i.imp id fun⟨i,c,m,o⟩=>⟨i,c,j c m,o⟩⟩
def Ao(w:Q0)(d:Nat->Prop)(v:Q4):Option (Nat×Nat×List gw)->Prop
 | none=>v=Q5 J
 | some (tv,of,got)=>∃b bv,v=Q5 (N ⟨b,0,none⟩)/\d b/\w.heap[b]?=N (Q1 #[I Re (tv:Nat),I Y (of:Nat),I Y (O got:Nat),bv] 257 (0,0))/\gS w 0 1 bv (O got.flatten) (l6 got.flatten)/\gQ w bv 5/\∀k,Rl bv=N k->d k
theorem Ao.frame{v:Q4}(h:Ao w d v m)(i:gR D w w')(l:∀k C j,d k->(w.heap[k]?=N (Q1 C 257 j)\/w.heap[k]?=N (Q1 C 5 j))->¬D k):Ao w' d v m:=by
 cases m with
 | none=>exact h
 | some m=>
  obtain⟨tv,of,got⟩:=m;obtain⟨b,bv,h1,o,q,u,r,s⟩:=h;have hk:∀k,Rl bv=N k->k<G (Q w)->w'.heap[k]?=w.heap[k]?:=fun k e hk=>by obtain⟨C,j,x⟩:=r k e;exact i.block k hk (l k _ _ (s k e) (.inr x))
  exact⟨b,bv,h1,o,i.at (l b _ _ o (.inl q)) q,u.frame i.size hk,r.frame hk,s⟩
theorem Ao.mono{v:Q4}(h:Ao w d v m)(i:∀k,d k->G' k):Ao w G' v m:=by
 cases m with
 | none=>exact h
 | some m=>obtain⟨tv,of,got⟩:=m;obtain⟨b,bv,h1,j,l,o,q,r⟩:=h;exact⟨b,bv,h1,i b j,l,o,q,fun k e=>i k (r k e)⟩
structure AV where
 r:Nat
 lg:Nat
 c:Nat
 fp:Q4
 cp:Q4
variable{x:AV}
def AV.cells(x:AV)(v h:Nat):Array Q4:=#[.map (N x.r),I Re (v:Nat),Q5 (N ⟨x.lg,0,J⟩),xi h,.chan (N x.c),x.fp,x.cp]
structure l5(w:Q0)(Gg Oo:Nat->Prop)(a h:Nat)(P:iM)(x:AV):Prop where
 row:w.heap[a]?=N (Q1 (x.cells P.a.V h) 174 (0,0))
 jh:iE w x.r P.a.T
 iF:jl w x.lg h P.lg
 out:oM w Oo x.c P.a.out
 flt:Ef w Gg x.fp P.nQ P.a.l4
 me:Ao w Gg x.cp P.a.me
 ru:Gg a/\Gg x.r/\Gg x.lg/\Gg x.c
 glt:∀k,Gg k->k<G (Q w)
 olt:∀k,Oo k->k<G (Q w)
 sep:∀k,Gg k->¬Oo k
theorem l5.frame(ha:l5 w b d a h P x)(i:gR D w w')(j:∀k,b k->¬D k)(l:∀k,d k->¬D k):l5 w' b d a h P x:=
 ⟨i.at (j _ ha.ru.1) ha.row,ha.jh.iI (i.block _ ha.jh.lt (j _ ha.ru.2.1)),i.at (j _ ha.ru.2.2.1) ha.iF,ha.out.frame i (j _ ha.ru.2.2.2) l,ha.flt.frame i fun k _ _ hk _=>j k hk,ha.me.frame i fun k _ _ hk _=>j k hk,ha.ru,fun k hk=>ae (ha.glt k hk) i.size,fun k hk=>ae (ha.olt k hk) i.size,ha.sep⟩
theorem l5.below(ha:l5 w b d a h P x)(i:Q8 (G (Q w)) w w'):l5 w' b d a h P x:=
 ha.frame (D:=fun _=>False) (gR.gO i) (fun _ _=>id) (fun _ _=>id)
theorem rb{b:Nat}{vals C:Array Q4}{t u:Bool}{T:Ri}{d:Nat×Nat}(h:w.heap[c]?=N (.chan cap vals t s r u))(k:w.heap[b]?=N (Q1 C T d)):b≠c:=fun e=>by rw[e,h]at k;cases k
theorem kK{b d:Nat}{C D:Array Q4}{T U:Ri}{i j:Nat×Nat}(h:w.heap[b]?=N (Q1 C T i))(k:w.heap[d]?=N (Q1 D U j))(l:T≠U):b≠d:=fun e=>by rw[e,k]at h;injection h with h;injection h with _ h;exact l h.symm
theorem l5.outs{O':Nat->Prop}{out:List gw}(ha:l5 w b d a h P x)(l:oM w' O' x.c out)(i:gR (fun j=>j=x.c) w w')(hl:∀k,O' k->k<G (Q w'))(m:∀k,O' k->d k\/G (Q w)<=k):l5 w' b O' a h {P with a:={P.a with out:=out}} x:=by
 obtain⟨s,r,vals,h1,-⟩:=ha.out;refine⟨i.at (rb h1 ha.row) ha.row,ha.jh.iI (i.block _ ha.jh.lt fun e=>?_),i.at (rb h1 ha.iF) ha.iF,l,ha.flt.frame i fun k C o _ hk e=>?_,ha.me.frame i fun k C o _ hk e=>?_,ha.ru,fun k hk=>ae (ha.glt k hk) i.size,hl,fun k hk l=>?_⟩
 .obtain⟨-,L,hm,-⟩:=ha.jh;obtain⟨es,q,hq,-⟩:=hm;rw[e,h1]at hq;cases hq
 .subst e;rcases hk with hk|hk<;>exact rb h1 hk rfl
 .subst e;rcases hk with hk|hk<;>exact rb h1 hk rfl
 .rcases m k l with h|h
  .exact ha.sep k hk h
  .have:=ha.glt k hk;omega
def tC(w:Q0)(b d:Nat->Prop)(a h:Nat)(P:iM)(w':Q0):Prop:=∃G' O' x,l5 w' G' O' a h P x/\(∀k,G' k\/O' k->b k\/d k\/G (Q w)<=k)/\gR (fun k=>b k) w w'
theorem tC.iN(i:Q8 (G (Q w)) w w1)(j:tC w1 b d a h P w'):tC w b d a h P w':=by obtain⟨G',O',x,h1,l,m⟩:=j;exact⟨G',O',x,h1,fun k hk=>(l k hk).imp id fun h=>h.imp id fun h=>au i.size h,(gR.gO i).trans m⟩
theorem tC.below(j:tC w b d a h P w1)(i:Q8 (G (Q w1)) w1 w'):tC w b d a h P w':=by obtain⟨G',O',x,h1,l,m⟩:=j;exact⟨G',O',x,h1.below i,l,m.trans (gR.gO i)⟩
theorem tC.trans{j:Nat->Prop}(h1:∀k,i k\/j k->b k\/d k\/G (Q w)<=k)(l:gR (fun k=>b k) w w1)(m:∀k,i k->b k\/G (Q w)<=k)(o:tC w1 i j a h P w'):tC w b d a h P w':=by
 obtain⟨G',O',x,g1,g2,q⟩:=o;refine⟨G',O',x,g1,fun k hk=>?_,l.j8 q m⟩;rcases g2 k hk with h|h|h
 .exact h1 k (.inl h)
 .exact h1 k (.inr h)
 .exact .inr (.inr (au l.size h))
theorem PU(a:iy)(k:UInt8)(b:gw):a.put k b={a with out:=yN a.out k b}:=by unfold iy.put yN;split<;>rfl
def nR(w:Q0)(b d:Nat->Prop)(a h:Nat)(P:iM)(x:AV)(w':Q0):Prop:=∃O',l5 w' b O' a h P x/\(∀k,O' k->d k\/G (Q w)<=k)/\gR (fun j=>j=x.c) w w'
theorem nR.iN(i:Q8 (G (Q w)) w w1)(j:nR w1 b d a h P x w'):nR w b d a h P x w':=by obtain⟨O',h1,l,m⟩:=j;exact⟨O',h1,fun k hk=>(l k hk).imp id fun h=>au i.size h,(gR.gO i).trans m⟩
theorem nR.trans(h1:∀k,i k->d k\/G (Q w)<=k)(l:gR (fun j=>j=x.c) w w1)(m:nR w1 b i a h P x w'):nR w b d a h P x w':=by obtain⟨O',g1,g2,o⟩:=m;exact⟨O',g1,fun k hk=>(g2 k hk).elim (h1 k) fun h=>.inr (au l.size h),l.trans o⟩
theorem nR.go(i:nR w b d a h P x w')(hc:b x.c):tC w b d a h P w':=by obtain⟨O',h1,j,l⟩:=i;exact⟨b,O',x,h1,fun k hk=>hk.elim .inl fun h=>.inr (j k h),l.mono fun k e=>e▸hc⟩
theorem l5.put(ha:l5 w b d a h P x){k:UInt8}{l:gw}(o:oM w' (fun j=>d j\/(G (Q w)<=j/\j<G (Q w'))) x.c (yN P.a.out k l))(m:gR (fun j=>j=x.c) w w'):nR w b d a h {P with a:=P.a.put k l} x w':=by rw[PU];exact⟨fun j=>d j\/(G (Q w)<=j/\j<G (Q w')),ha.outs o m (fun j i=>i.elim (fun h=>ae (ha.olt j h) m.size) fun h=>h.2) (fun j i=>i.imp id fun h=>h.1),fun j i=>i.imp id fun h=>h.1,m⟩
theorem np(a h:Nat)(P:iM)(x:AV)(b d:Nat->Prop)(w:Q0)(ha:l5 w b d a h P x)(y:P.a.V<18446744073709551616):
  Rg prog 115 #[Q5 (N ⟨a,0,J⟩)] w fun e w'=>e=Ra (Rc #[])/\nR w b d a h {P with a:=P.a.ki} x w':=by
 have B:=gj ha;have r0:=ha.row;unfold AV.cells at r0;have c1:=gr 1 r0;have c4:=gr 4 r0;have m:=gm r0;clear ha r0;go_enter func115,ntmps115;go_wp2_with fail;refine(By (G (Q w)) (Q6 J 0 0) [] P.a.V w (gS.nil _ _ _) gH (by simp[im]) y).mono ?_;rintro e w2 ⟨bv,rfl,i,j⟩;simp only[aI,bY,aQ]at i;have l:=gj (B.o.below j);have d4:=(j.cell (p:=⟨a,4,J⟩) m).trans c4;have q:=gj j;have r:=gj i;clear j c1 c4 i;go_wp2_with fail;refine(vE a x.c d P.a.out 16 bv (nC P.a.V) w2 d4 l.o.out l.o.olt (by have:=r.o.bytes;simpa [iB]using this) (by rw[iB];omega)).mono ?_;rintro e w3 ⟨rfl,s,u⟩;have C:=gj (nR.iN q.o (l.o.put s u));clear s u d4;go_wp2;go_end0;exact⟨rfl,C.o⟩
theorem tG(a h:Nat)(P:iM)(x:AV)(b d:Nat->Prop)(w:Q0)(ha:l5 w b d a h P x)(y:P.a.V<18446744073709551616):
  Rg prog 152 #[Q5 (N ⟨a,0,J⟩)] w fun e w'=>e=Ra (Rc #[])/\nR w b d a h {P with a:=P.a.oO} x w':=by
 have B:=gj ha;have r0:=ha.row;unfold AV.cells at r0;have c1:=gr 1 r0;have c4:=gr 4 r0;have m:=gm r0;clear ha r0;go_enter func152,ntmps152;go_wp2_with fail;refine(By (G (Q w)) (Q6 J 0 0) [] P.a.V w (gS.nil _ _ _) gH (by simp[im]) y).mono ?_;rintro e w2 ⟨bv,rfl,i,j⟩;simp only[aI,bY,aQ]at i;have l:=gj (B.o.below j);have d4:=(j.cell (p:=⟨a,4,J⟩) m).trans c4;have q:=gj j;have r:=gj i;clear j c1 c4 i;go_wp2_with fail;refine(vE a x.c d P.a.out 17 bv (nC P.a.V) w2 d4 l.o.out l.o.olt (by have:=r.o.bytes;simpa [iB]using this) (by rw[iB];omega)).mono ?_;rintro e w3 ⟨rfl,s,u⟩;have C:=gj (nR.iN q.o (l.o.put s u));clear s u d4;go_wp2;go_end0;exact⟨rfl,C.o⟩
theorem pw(a h k:Nat)(P:iM)(x:AV)(b d:Nat->Prop)(w:Q0)(ha:l5 w b d a h P x)(hk:k<256):
  Rg prog 109 #[Q5 (N ⟨a,0,J⟩),I Y (k:Nat)] w fun e w'=>e=Ra (Rc #[])/\nR w b d a h {P with a:=P.a.jM k} x w':=by
 have B:=gj ha;have r0:=ha.row;unfold AV.cells at r0;have c4:=gr 4 r0;have l:=gm r0;have m:gy (((k:Nat):Int)%256=((UInt8.ofNat k).toNat:Int)):=gj (by simp);have q:gy (((k:Nat):Int)=((UInt8.ofNat k).toNat:Int)):=gj (by simp;omega);have i:Q8 (G (Q w)) w (Ro w (Q1 #[I .u8 ((UInt8.ofNat k).toNat:Int)] 5)):=(Below.rf w).alloc gH _;have j:=gj (B.o.below i);have r:=gj (ow w (UInt8.ofNat k));have d4:=(i.cell (p:=⟨a,4,J⟩) l).trans c4;have s:=gj i;clear ha r0 i c4;go_enter func109,ntmps109;go_wp2_with fail
 first|rw[m.o]|rw[q.o]
 refine(vE a x.c d P.a.out 18 _ [UInt8.ofNat k] _ d4 j.o.out j.o.olt r.o (by simp)).mono ?_;rintro e w3 ⟨rfl,u,y⟩;have C:=gj (nR.iN s.o (j.o.put u y));clear u y d4;go_wp2;go_end0;exact⟨rfl,C.o⟩
theorem rZ(a h:Nat)(P:iM)(x:AV)(b d:Nat->Prop)(w:Q0)(ha:l5 w b d a h P x)(tv of:Nat)(got:List gw)(hc:P.a.me=N (tv,of,got))(R:O got<256):
  Rg prog 124 #[Q5 (N ⟨a,0,J⟩)] w fun e w'=>e=Ra (Rc #[])/\nR w b d a h {P with a:=P.a.lX} x w':=by
 have E:=gj ha;have r0:=ha.row;have j:=ha.me;rw[hc]at j;obtain⟨S,bv,q,-,l,-⟩:=j;unfold AV.cells at r0;rw[q]at r0;have c4:=gr 4 r0;have U:=gr 6 r0;have g2:=gr 2 l;have r:=gm r0;have s:gy (((O got:Nat):Int)%256=((UInt8.ofNat (O got)).toNat:Int)):=gj (by simp);have u:gy (((O got:Nat):Int)=((UInt8.ofNat (O got)).toNat:Int)):=gj (by simp;omega);have i:Q8 (G (Q w)) w (Ro w (Q1 #[I .u8 ((UInt8.ofNat (O got)).toNat:Int)] 5)):=(Below.rf w).alloc gH _;have m:=gj (E.o.below i);have y:=gj (ow w (UInt8.ofNat (O got)));have d4:=(i.cell (p:=⟨a,4,J⟩) r).trans c4;have B:=gj i;have F:gy (P.a.lX=P.a.put 19 [UInt8.ofNat (O got)]):=gj (by unfold iy.lX iy.Gi;rw[hc]);clear ha r0 i c4 l q hc;go_enter func124,ntmps124;go_wp2_with fail
 first|rw[s.o]|rw[u.o]
 refine(vE a x.c d P.a.out 19 _ [UInt8.ofNat (O got)] _ d4 m.o.out m.o.olt y.o (by simp)).mono ?_;rintro e w3 ⟨rfl,C,D⟩;have M:=gj (nR.iN B.o (m.o.put C D));clear C D d4;go_wp2;go_end0;exact⟨rfl,by rw[F.o];exact M.o⟩
theorem l5.MV(ha:l5 w d i a h P x):(P.a.l4=J/\x.fp=Q5 J)\/(∃f b,P.a.l4=N f/\x.fp=Q5 (N ⟨b,0,J⟩)):=by
 have j:=ha.flt;cases l:P.a.l4 with
 | none=>rw[l]at j;exact .inl ⟨rfl,j⟩
 | some f=>rw[l]at j;obtain⟨b,m,-⟩:=j;exact .inr ⟨f,b,rfl,m⟩
theorem Cw(a h:Nat)(P:iM)(x:AV)(b d:Nat->Prop)(w:Q0)(ha:l5 w b d a h P x):
  Rg prog 87 #[Q5 (N ⟨a,0,J⟩)] w fun e w'=>e=Ra (I Re (P.a.V:Nat))/\w'=w:=by
 have r0:=ha.row;unfold AV.cells at r0;have c1:=gr 1 r0;have i:=gm r0;clear ha r0;go_enter func87,ntmps87;go_wp2;go_ret;exact⟨rfl,rfl⟩
def P5(w:Q0)(ev:Q4)(nQ:Nat)(f:Nat×Nat):Prop:=∃b,ev=Rb 171 (Q5 (N ⟨b,0,J⟩))/\
  ((f.1≠12/\w.heap[b]?=N (Q1 #[I Y (f.1:Nat),I Y (f.2:Nat),.nilIface] 186 (0,0)))\/
   (f.1=12/\∃c,w.heap[b]?=N (Q1 #[I Y (f.1:Nat),I Y (f.2:Nat),Rb 188 (Q5 (N ⟨c,0,J⟩))] 186 (0,0))/\w.heap[c]?=N (Q1 #[I Y ((nQ:Int)-2)] 191 (0,0))))
theorem AB(a h:Nat)(P:iM)(x:AV)(d i:Nat->Prop)(w:Q0)(ha:l5 w d i a h P x):
  Rg prog 88 #[Q5 (N ⟨a,0,J⟩)] w fun e w'=>Q8 (G (Q w)) w w'/\match P.a.l4 with
   | none=>e=Ra .nilIface
   | some f=>∃ev,e=Ra ev/\P5 w' ev P.nQ f:=by
 have r0:=ha.row;have l:=ha.flt;unfold AV.cells at r0;have E:=gm r0;clear ha;cases r:P.a.l4 with
 | none=>rw[r]at l;have l:x.fp=Q5 J:=l;rw[l]at r0;have c5:=gr 5 r0;clear r0 l r;go_enter func88,ntmps88;go_wp2;go_ret;exact⟨Below.rf w,rfl⟩
 | some f=>
  rw[r]at l;obtain⟨b,y,-,l⟩:=l;rw[y]at r0;have c5:=gr 5 r0;clear r0 y r;rcases l with ⟨m,j⟩|⟨m,c,-,j,q⟩
  .have f0:=gr 0 j;have f1:=gr 1 j;have f2:=gr 2 j;have B:=gm j;have u:=gj (gB w (Q1 #[I Y (f.1:Nat),I Y (f.2:Nat),.nilIface] 186));have s:=gj ((Below.rf w).alloc gH (Q1 #[I Y (f.1:Nat),I Y (f.2:Nat),.nilIface] 186));clear j;go_enter func88,ntmps88;go_wp2;go_ret;exact⟨s.o,_,rfl,_,rfl,.inl ⟨m,u.o⟩⟩
  .have f0:=gr 0 j;have f1:=gr 1 j;have f2:=gr 2 j;have B:=gm j;have u:=gj (gB w (Q1 #[I Y (f.1:Nat),I Y (f.2:Nat),Rb 188 (Q5 (N ⟨c,0,J⟩))] 186));have s:=gj ((Below.rf w).alloc gH (Q1 #[I Y (f.1:Nat),I Y (f.2:Nat),Rb 188 (Q5 (N ⟨c,0,J⟩))] 186));have C:=gj (gC s.o (gm q) q);have D:=gj m;clear j q m;go_enter func88,ntmps88;go_wp2;go_ret;exact⟨s.o,_,rfl,_,rfl,.inr ⟨D.o,c,u.o,C.o⟩⟩
def vC(w:Q0)(b d:Nat->Prop)(a h:Nat)(i:iM)(r:Option Nat)(e:Ending)(w':Q0):Prop:=
 tC w b d a h i w'/\match r with
  | none=>e=Ra .nilIface
  | some k=>∃ev p,e=Ra ev/\mB w' (G (Q w)) ev (k:Nat) p
theorem FC(a h:Nat)(P:iM)(x:AV)(b d:Nat->Prop)(bv:Q4)(body:gw)(w:Q0)(ha:l5 w b d a h P x)(q:P.a.V<18446744073709551616)(j:gI w bv body)(hl:O body<=im):
  Rg prog 112 #[Q5 (N ⟨a,0,J⟩),bv] w (vC w b d a h (if body=[]then {P with a:=P.a.ki}else P) (if body=[]then J else N 2)):=by
 obtain⟨C,r,rfl,-,-⟩:=j.gU;have m:=gj ha;have B:im<=1000000000000000000:=by decide
 cases body with
 | nil=>rw[aw rfl,aw rfl];clear ha j;go_enter func112,ntmps112;go_wp2_with fail;refine(np a h P x b d w m.o q).mono ?_;rintro e w1 ⟨rfl,i⟩;have s:=gj i;clear i;go_wp2;go_ret;exact⟨s.o.go m.o.ru.2.2.2,rfl⟩
 | cons y l=>
  rw[af (by simp),af (by simp)];have u:(0:Int)<((y::l).length:Int):=by rw[ao];omega
  generalize (y::l).length=n at *
  clear ha j;go_enter func112,ntmps112;go_wp2_with fail;refine(lj 2 0 w).mono ?_;rintro e w1 ⟨rfl,rfl⟩;go_wp2;go_ret;exact⟨⟨b,d,x,m.o.below ((Below.rf w).alloc gH _),fun k hk=>hk.imp id .inl,gR.gO ((Below.rf w).alloc gH _)⟩,_,0,rfl,mB.new w _ 2 0 gH⟩
theorem l5.Ah(ha:l5 w b d a h P x)(i:gR (fun j=>j=a) w w'):Ef w' b x.fp P.nQ P.a.l4:=
 ha.flt.frame i fun k C l _ hk e=>by subst e;rcases hk with hk|hk<;>exact kK ha.row hk (by decide) rfl
theorem l5.Es(ha:l5 w b d a h P x)(i:gR (fun j=>j=a) w w'):Ao w' b x.cp P.a.me:=
 ha.me.frame i fun k C l _ hk e=>by subst e;rcases hk with hk|hk<;>exact kK ha.row hk (by decide) rfl
theorem l5.oK{x':AV}(ha:l5 w b d a h P x)(i:gR (fun j=>j=a) w w')(o:w'.heap[a]?=N (Q1 (x'.cells P'.a.V h) 174 (0,0)))(q:x'.r=x.r)(u:x'.lg=x.lg)(y:x'.c=x.c)(C:P'.a.T=P.a.T)(D:P'.lg=P.lg)(E:P'.a.out=P.a.out)(l:∀k,b k->G' k)(m:∀k,G' k->k<G (Q w')/\¬d k)(F:Ef w' G' x'.fp P'.nQ P'.a.l4)(hc:Ao w' G' x'.cp P'.a.me):l5 w' G' d a h P' x':=by
 obtain⟨s,r,vals,h1,-⟩:=ha.out;have B:x.r≠a:=fun e=>ha.jh.mZ ha.row e.symm;refine⟨o,?_,?_,?_,F,hc,⟨l _ ha.ru.1,by rw[q];exact l _ ha.ru.2.1,by rw[u];exact l _ ha.ru.2.2.1,by rw[y];exact l _ ha.ru.2.2.2⟩,fun k hk=>(m k hk).1,fun k hk=>ae (ha.olt k hk) i.size,fun k hk=>(m k hk).2⟩
 .rw[q,C];exact ha.jh.iI (i.block _ ha.jh.lt B)
 .rw[u,D];have hl:=ha.iF;unfold jl at hl⊢;exact i.at (fun e=>kK ha.row hl (by decide) e.symm) hl
 .rw[y,E];exact ha.out.frame i (fun e=>rb h1 ha.row e.symm) fun k hk e=>ha.sep a ha.ru.1 (e▸hk)
theorem KJ(w:Q0)(b i:Nat)(v:Q4)(o:Obj):gR (fun j=>j=b) (Ro w o) ((Rp w ⟨b,i,J⟩ v).alloc o):=by
 refine⟨rfl,rfl,rfl,by rw[aj,aj,QO];exact aq _,fun j q l=>?_⟩;rw[aj]at q;by_cases d:j<G (Q w)
 .rw[heap_alloc_old _ _ d,heap_alloc_old _ _ (by rw[QO];exact d)];exact Below.heap_setCell w ⟨b,i,J⟩ v j l
 .obtain rfl:j=G (Q w):=by omega
  have h1:=gB w o;have m:=gB (Rp w ⟨b,i,J⟩ v) o;rw[QO]at m;rw[h1,m]
def iy.jJ(a:iy)(body:gw):iy×Option Nat:=
 if(O body)<9 then(a,N 1)else if 9<O body then(a,N 2)
 else if ij (j6 (body.take 8))=false then(a,N 4)
 else if(body.getD 8 0).toNat<1\/16<(body.getD 8 0).toNat then(a,N 5)
 else if j6 (body.take 8)<=a.V then(a.oO,J)
 else(iy.lX {a with me:=N (j6 (body.take 8),(body.getD 8 0).toNat,[])},J)
theorem MC(a:iy)(body:gw):a.mW body=match (a.jJ body).2 with
  | none=>(a.jJ body).1
  | some k=>a.pW k:=by
 unfold iy.mW iy.jJ;split
 .rfl
 .split
  .rfl
  .split
   .rfl
   .split
    .rfl
    .split<;>rfl
theorem Al(ha:l5 w b d a h P x)(i:Q8 (G (Q w)) w w'):tC w b d a h P w':=⟨b,d,x,ha.below i,fun _k hk=>hk.imp id .inl,gR.gO i⟩
theorem MB(body:gw):(O body<9->∃p,((Cu.take ⟨body,0,0,J⟩ 8).1.take 1).1.f=N (1,p))/\
  (9<=O body->((Cu.take ⟨body,0,0,J⟩ 8).1.take 1).1.f=J/\((Cu.take ⟨body,0,0,J⟩ 8).1.take 1).1.to=9/\(Cu.take ⟨body,0,0,J⟩ 8).2=body.take 8/\((Cu.take ⟨body,0,0,J⟩ 8).1.take 1).2=[body.getD 8 0]):=by
 rw[Cu.jV];constructor
 .intro hl;by_cases b:O body<8
  .rw[aw (by omega)];exact⟨0,by rw[Cu.nc]⟩
  .rw[af (by omega)];exact⟨8,by rw[Cu.jV,aw (by omega)]⟩
 .intro hl;rw[af (by omega),Cu.jV,af (by omega)];refine⟨rfl,rfl,by simp,?_⟩;have b:8<O body:=by omega
  show(body.drop (0+8)).take 1=_;rw[bY,cD b,aN,bp,aD,ah b];rfl
theorem Em(a h:Nat)(P:iM)(x:AV)(d l:Nat->Prop)(bv:Q4)(body:gw)(w:Q0)(ha:l5 w d l a h P x)(hv:P.a.V<18446744073709551616)(hb:gI w bv body)(al:∀b,Rl bv=N b->b<G (Q w))(hl:O body<=im):
  Rg prog 113 #[Q5 (N ⟨a,0,J⟩),bv] w (vC w d l a h {P with a:=(P.a.jJ body).1} (P.a.jJ body).2):=by
 obtain⟨co,U,rfl,-,-⟩:=hb.gU;have W:=gj ha;have b4:im<=1000000000000000000:=by decide
 have a7:jd (Ro w (Q1 #[Q6 co (O body) U,I Y 0,I Y 0,Q5 J] 254)) (G (Q w)) (G (Q w)) ⟨body,0,0,J⟩:=
  ⟨aJ _,aq _,hl,aq _,Q6 co (O body) U,J,gB _ _,hb.below ((Below.rf w).alloc gH _),fun b e=>al b e,rfl⟩
 have bB:=gj a7;have am:=gj (MB body);have b5:∀b,(Q6 co (O body) U).ownBlock=N b->b≠G (Q w):=fun b e=>by have:=al b e;omega
 clear a7 ha hb al;obtain⟨R,ap⟩:∃R,R=Cu.take ⟨body,0,0,J⟩ 8:=⟨_,rfl⟩;obtain⟨q2,aE⟩:∃q2,q2=R.1.take 1:=⟨_,rfl⟩;rw[<-ap,<-aE]at am;have a8:=gj ap;have a9:=gj aE;clear ap aE;go_enter func113,ntmps113;go_wp2_with fail;refine(qv (G (Q w)) (G (Q w)) ⟨body,0,0,J⟩ _ bB.o (by simp)).mono ?_;rintro e w1 ⟨rfl,X,D⟩;rw[<-a8.o]at X⊢;have b1:Q8 (G (Q w)) w w1:=((Below.rf w).alloc gH _).trans (by refine⟨D.os,D.tape,D.output,D.size,fun k hk=>D.block k (by simp;omega) (fun e=>by cases e;omega)⟩);have a0:=gj b1;have br:=gj X;have a1:gy (j6 R.2<18446744073709551616):=gj (by
  have h8:O R.2=8:=by rw[a8.o,Cu.take_length]
  have:=pR 8 R.2 (by omega);rw[aW (by omega)]at this;simpa using this)
 obtain⟨V,hV⟩:∃V,V=j6 R.2:=⟨_,rfl⟩;have HV:=gj hV;rw[<-hV]at a1⊢;clear X D b1 hV;go_wp2_with fail;refine(nb (G (Q w)) (G (Q w)) R.1 1 w1 br.o a0.o.size (by omega) (by omega)).mono ?_;rintro e w2 ⟨tv,rfl,Z,-,a2,E⟩;rw[<-a9.o]at Z a2;have q:gy (Q8 (G (Q w)) w w2):=gj (a0.o.trans ⟨E.os,E.tape,E.output,E.size,fun k hk=>E.block k (by have:=a0.o.size;omega) (fun e=>by cases e;omega)⟩);obtain⟨m,hN⟩:∃m,q2.2=[m]:=by
  have:O q2.2=1:=by rw[a9.o,Cu.take_length]
  match q2.2,this with
  | [m],_=>exact⟨m,rfl⟩
 have HN:=gj hN;rw[hN]at Z;obtain⟨ta,b2,rfl,b6,ba⟩:=Z.gU;obtain⟨tb,b8,rfl,t0⟩:=ba 0 (by simp);obtain⟨-,-,-,-,cv,fp,M,-,-,s⟩:=a2;have c2:=gr 2 M;have c3:=gr 3 M;have b9:=gm M;have bb:=gj s;simp only[cG,cL]at t0;obtain⟨r,aa⟩:∃r,r=m.toNat:=⟨_,rfl⟩;rw[<-aa]at t0;have ca:r<256:=by rw[aa];exact m.toNat_lt
 have bH:=gj aa;clear aa;clear s ba Z hN E M;by_cases h9:O body<9
 .obtain⟨p,hp⟩:=am.o.1 h9;have s:=bb.o;rw[hp]at s;obtain⟨g,rfl,-⟩:=s;have B:gy (P.a.jJ body=(P.a,N 1)):=gj (by unfold iy.jJ;rw[aw h9]);clear hp h9;go_wp2_with fail;refine(lj 1 0 _).mono ?_;rintro e w3 ⟨rfl,rfl⟩;have C:=gj (q.o.alloc q.o.size (Q1 #[I Y 1,I Y 0,.nilIface] 186));go_wp2;go_ret;rw[B.o];exact⟨Al W.o C.o,_,0,rfl,mB.new _ _ 1 0 q.o.size⟩
 .have bL:9<=O body:=by omega
  obtain⟨e1,e2,e3,e4⟩:=am.o.2 bL;have s:=bb.o;rw[e1]at s;obtain rfl:fp=J:=s;rw[e2]at c2;rw[e4]at HN;have S:m=body.getD 8 0:=(List.cons.inj HN.o).1.symm;have S:r=(body.getD 8 0).toNat:=by rw[bH.o,S]
  have a3:V=j6 (body.take 8):=by rw[HV.o,e3]
  clear e1 e2 e3 e4;by_cases ag:9<O body
  .have bw:(9:Int)<(O body:Int):=by omega
   have B:gy (P.a.jJ body=(P.a,N 2)):=gj (by unfold iy.jJ;rw[af (by omega),aw ag]);clear S a3 ag;go_wp2_with fail;refine(lj 2 0 _).mono ?_;rintro e w3 ⟨rfl,rfl⟩;have C:=gj (q.o.alloc q.o.size (Q1 #[I Y 2,I Y 0,.nilIface] 186));go_wp2;go_ret;rw[B.o];exact⟨Al W.o C.o,_,0,rfl,mB.new _ _ 2 0 q.o.size⟩
  .have bw:¬(9:Int)<(O body:Int):=by omega
   have HS:gy (P.a.jJ body=if ij V=false then(P.a,N 4)else if r<1\/16<r then(P.a,N 5)else if V<=P.a.V then(P.a.oO,J)else(iy.lX {P.a with me:=N (V,r,[])},J)):=gj (by unfold iy.jJ;rw[af (by omega),af ag,<-a3,<-S]);clear S a3 ag h9;have b0:=a1.o;go_upto_region 10 with fail;go_wp2_with fail;refine(sJ V w2).mono ?_;rintro e cb ⟨rfl,rfl⟩;cases u:ij V with
   | false=>have B:gy (P.a.jJ body=(P.a,N 4)):=gj (by rw[HS.o,aw u]);clear u;go_wp2_with fail;refine(lj 4 0 _).mono ?_;rintro e w3 ⟨rfl,rfl⟩;have C:=gj (q.o.alloc q.o.size (Q1 #[I Y 4,I Y 0,.nilIface] 186));go_wp2;go_ret;rw[B.o];exact⟨Al W.o C.o,_,0,rfl,mB.new _ _ 4 0 q.o.size⟩
   | true=>
    by_cases F:r<1\/16<r
    .have B:gy (P.a.jJ body=(P.a,N 5)):=gj (by rw[HS.o,af (by rw[u];decide),aw F]);have bR:((r:Int)<1)\/(¬(r:Int)<1/\(16:Int)<(r:Int)):=by omega
     clear u F;rcases bR with g1|⟨g1,g2⟩
     all_goals
      go_wp2_with fail;refine(lj 5 0 _).mono ?_;rintro e w3 ⟨rfl,rfl⟩;have C:=gj (q.o.alloc q.o.size (Q1 #[I Y 5,I Y 0,.nilIface] 186));go_wp2;go_ret;rw[B.o];exact⟨Al W.o C.o,_,0,rfl,mB.new _ _ 5 0 q.o.size⟩
    .have g1:¬(r:Int)<1:=by omega
     have g2:¬(16:Int)<(r:Int):=by omega
     have y:=gj (W.o.below q.o);have r2:=y.o.row;unfold AV.cells at r2;have d1:=gr 1 r2;have d6:=gr 6 r2;have z6:=gD 6 r2;have cc:=gm r2;clear r2;by_cases ak:V<=P.a.V
     .have bx:(V:Int)<=(P.a.V:Int):=by omega
      have B:gy (P.a.jJ body=(P.a.oO,J)):=gj (by rw[HS.o,af (by rw[u];decide),af F,aw ak]);clear u F ak;go_wp2_with fail;refine(tG a h P x d l w2 y.o hv).mono ?_;rintro e w3 ⟨rfl,bc⟩;have HP:=gj bc;clear bc;go_wp2;go_ret;rw[B.o];exact⟨tC.iN q.o (HP.o.go W.o.ru.2.2.2),rfl⟩
     .have bx:¬(V:Int)<=(P.a.V:Int):=by omega
      have B:gy (P.a.jJ body=(iy.lX {P.a with me:=N (V,r,[])},J)):=gj (by rw[HS.o,af (by rw[u];decide),af F,af ak]);clear u F ak;have H3:gy (l5 ((Rp w2 ⟨a,6,J⟩ (Q5 (N ⟨G (Q w2),0,J⟩))).alloc (Q1 #[I Re (V:Nat),I Y (r:Nat),I Y 0,Q6 J 0 0] 257)) (fun k=>d k\/k=G (Q w2)) l a h {P with a:={P.a with me:=N (V,r,[])}} {x with cp:=Q5 (N ⟨G (Q w2),0,J⟩)}/\gR (fun k=>d k) w2 ((Rp w2 ⟨a,6,J⟩ (Q5 (N ⟨G (Q w2),0,J⟩))).alloc (Q1 #[I Re (V:Nat),I Y (r:Nat),I Y 0,Q6 J 0 0] 257))):=by
       have bi:Q8 (G (Q w2)) w2 (Ro w2 (Q1 #[I Re (V:Nat),I Y (r:Nat),I Y 0,Q6 J 0 0] 257)):=(Below.rf w2).alloc gH _;have bk:=y.o.below bi;have hx:gR (fun j=>j=a) (Ro w2 (Q1 #[I Re (V:Nat),I Y (r:Nat),I Y 0,Q6 J 0 0] 257)) ((Rp w2 ⟨a,6,J⟩ (Q5 (N ⟨G (Q w2),0,J⟩))).alloc (Q1 #[I Re (V:Nat),I Y (r:Nat),I Y 0,Q6 J 0 0] 257)):=KJ w2 a 6 _ _;have bS:G (Q w2)≠a:=by omega
       refine gj ⟨bk.oK (G':=fun k=>d k\/k=G (Q w2)) hx (gP _ _ (QN _ _ 6 _ y.o.row)) rfl rfl rfl rfl rfl rfl (fun k=>.inl) (fun k hk=>?_) ((bk.Ah hx).mono fun k=>.inl) ?_,(gR.gO bi).j8 hx fun i e=>.inl (e▸y.o.ru.1)⟩
       .rw[aj,QO];rcases hk with hk|rfl
        .exact⟨by have:=y.o.glt k hk;omega,y.o.sep k hk⟩
        .exact⟨by omega,fun ho=>by have:=y.o.olt _ ho;omega⟩
       .exact⟨G (Q w2),Q6 J 0 0,rfl,.inr rfl,hx.at bS (gB w2 _),gS.nil _ _ _,gQ.nil _ _,fun k e=>by simp[Value.ownBlock]at e⟩
      go_upto_region 9 with fail;generalize bX:(Rp w2 ⟨a,6,J⟩ (Q5 (N ⟨G (Q w2),0,J⟩))).alloc (Q1 #[I Re (V:Nat),I Y (r:Nat),I Y 0,Q6 J 0 0] 257)=w3 at *
      have cd:gy (G (Q w2)<=G (Q w3)):=gj H3.o.2.size;clear bX;go_wp2_with fail;refine(rZ a h _ _ _ l w3 H3.o.1 V r [] rfl (by simp)).mono ?_;rintro e w4 ⟨rfl,bl⟩;have HP:=gj bl;clear bl;go_wp2;go_ret;rw[B.o];refine⟨tC.iN q.o (tC.trans (fun k hk=>?_) H3.o.2 (fun k hk=>?_) (HP.o.go (.inl W.o.ru.2.2.2))),rfl⟩
      .rcases hk with (hk|rfl)|hk
       .exact .inl hk
       .exact .inr (.inr gH)
       .exact .inr (.inl hk)
      .rcases hk with hk|rfl
       .exact .inl hk
       .exact .inr gH
open Go.Shelf
theorem qa.iN{x:HV}{d:jz}(b:Q8 (G (Q w)) w w1)(j:qa w1 base h x d w'):qa w base h x d w':=by obtain⟨⟨lv,h1,l⟩,m⟩:=j;exact⟨⟨lv,h1,fun i e=>(l i e).imp id (fun e=>au b.size e)⟩,(gR.gO b).trans m⟩
theorem BB{room:Nat->Int}(h:pT S room=N t):si S room=(t:Int)/\t<3:=by
 unfold si;rw[h];refine⟨rfl,?_⟩;unfold pT at h;split at h
 .cases h;omega
 .split at h
  .cases h;omega
  .split at h
   .cases h;omega
   .cases h
theorem Bz{room:Nat->Int}(h:pT S room=J):si S room=-1:=by unfold si;rw[h]
theorem BG(base q r h:Nat)(x:HV)(d:jz)(T:List E)(w:Q0)(he:jt w q 0 r T)(u:xj w base h x d)(V:O T<=100000000)(X:O d.S<=100000000)(Z:O d.iF<=7500000000000)(b:∀y∈d.S,O y.1.2<=im)(i:∀y∈T,O y.1.2<=im/\O y.2<=im)(hb:base<=G (Q w))(C:q≠h)(D:Rl x.iF≠N q)(F:r≠x.r)(M:pT T x.room=J):
  Rg prog 63 #[xi h,Q5 (N ⟨q,0,J⟩)] w fun e w'=>e=Ra .nilIface/\qa w base h x (d.run (lU d.S T)) w':=by
 have j:=gj (GP q 0 r h x T w he u.row (by omega));rw[Bz M]at j;have R:=gj (fun(W:Q0) (B:Q8 (G (Q w)) w W)=>Dl base q 0 r h x d T W (he.below B) (u.below B) V X Z b i (au hb B.size) C D F);have ag:=he.lt;clear he u b i M;unfold xi at *
 go_enter func63,ntmps63;go_wp2_with fail;refine j.o.mono ?_;rintro e w1 ⟨rfl,l⟩;have m:=gj l;go_wp2_with fail;refine(R.o w1 m.o).mono ?_;rintro e w2 ⟨rfl,s⟩;have U:=gj s;clear s l;go_wp2;go_ret;exact⟨rfl,qa.iN m.o U.o⟩
theorem ji.brought{x:HV}{d':jz}(d:ji w F h x H)(o:qa w 0 h x d' w'):kc w F (fun _=>False) h {H with dp:=d'} w':=by
 obtain⟨⟨lv,h1,q⟩,j⟩:=o;have l:w.heap[h]?=_:=d.dp.row;obtain⟨f1,f2,f3⟩:=d.qL;have m:∀(k:Nat) (C:Array Q4) (t:Ri) (i:Nat×Nat),w.heap[k]?=N (Q1 C t i)->t≠125->t≠9->w'.heap[k]?=w.heap[k]?:=fun k C t i hk n1 n2=>j.block k (gm hk) fun e=>by
  rcases e with e|e|e
  .rw[e,l]at hk;cases hk;exact n1 rfl
  .exact d.dp.jh.mZ hk e
  .exact d.dp.qN.ne hk n2 e
 refine⟨fun k=>F k\/(G (Q w)<=k/\k<G (Q w')),⟨_,⟨h1,d.fail,d.il,?_,?_,?_,d.pV,⟨.inl f1,.inl f2,fun k e=>(q k e).imp (f3 k) fun hk=>⟨hk,?_⟩⟩,fun k hk=>hk.elim (fun hF=>ae (d.lt k hF) j.size) fun hk=>hk.2⟩⟩,fun k hk=>hk.imp id fun hk=>hk.1,j.mono fun k hk=>.inl ?_⟩
 .exact(d.held.iI j.size fun k C t i hk b _=>m k C t i hk (by rcases b with b|b<;>rw[b]<;>decide) (by rcases b with b|b<;>rw[b]<;>decide)).mono fun _=>.inl
 .exact(d.gG.iI j.size fun k C t i hk b _=>m k C t i hk (by rcases b with b|b<;>rw[b]<;>decide) (by rcases b with b|b<;>rw[b]<;>decide)).mono fun _=>.inl
 .exact(d.gX.iI j.size fun k C t i hk b _=>m k C t i hk (by rcases b with b|b<;>rw[b]<;>decide) (by rcases b with b|b<;>rw[b]<;>decide)).mono fun _=>.inl
 .obtain⟨C,i,r⟩:=h1.qN k e;exact gm r
 .rcases hk with hk|hk|hk
  .rw[hk];exact f1
  .rw[hk];exact f2
  .exact f3 k hk
structure jL(w:Q0)(F Gg Oo:Nat->Prop)(a h:Nat)(H:gA)(P:iM)(x:AV):Prop where
 kQ:iU w F h H
 ag:l5 w Gg Oo a h P x
 fg:∀k,F k->¬Gg k
 fo:∀k,F k->¬Oo k
def Kz(w:Q0)(M:Nat->Prop)(a h:Nat)(H:gA)(P:iM):Prop:=∃F b d x,jL w F b d a h H P x/\∀k,F k\/b k\/d k->M k
def nS(w:Q0)(M:Nat->Prop)(a h:Nat)(H:gA)(P:iM)(w':Q0):Prop:=∃b,Kz w' b a h H P/\(∀k,b k->M k\/G (Q w)<=k)/\gR M w w'
theorem jL.frame(hm:jL w F b d a h H P x)(j:gR D w w')(i:∀k,F k\/b k\/d k->¬D k):jL w' F b d a h H P x:=
 ⟨hm.kQ.ext j fun k hk=>i k (.inl hk),hm.ag.frame j (fun k hk=>i k (.inr (.inl hk))) fun k hk=>i k (.inr (.inr hk)),hm.fg,hm.fo⟩
theorem jL.below(hm:jL w F b d a h H P x)(i:Q8 (G (Q w)) w w'):jL w' F b d a h H P x:=hm.frame (D:=fun _=>False) (gR.gO i) fun _ _=>id
theorem Kz.frame(hm:Kz w M a h H P)(j:gR D w w')(l:∀k,M k->¬D k):Kz w' M a h H P:=by obtain⟨F,b,d,x,h1,i⟩:=hm;exact⟨F,b,d,x,h1.frame j fun k hk=>l k (i k hk),i⟩
theorem Kz.below(hm:Kz w M a h H P)(b:Q8 (G (Q w)) w w'):Kz w' M a h H P:=hm.frame (D:=fun _=>False) (gR.gO b) fun _ _=>id
theorem nS.iN(b:Q8 (G (Q w)) w w1)(d:nS w1 M a h H P w'):nS w M a h H P w':=by obtain⟨i,h1,j,l⟩:=d;exact⟨i,h1,fun k hk=>(j k hk).imp id (au b.size),(gR.gO b).trans l⟩
theorem nS.below(d:nS w M a h H P w1)(b:Q8 (G (Q w1)) w1 w'):nS w M a h H P w':=by obtain⟨i,h1,j,l⟩:=d;exact⟨i,h1.below b,j,l.trans (gR.gO b)⟩
theorem nS.trans(d:∀k,b k->M k\/G (Q w)<=k)(i:gR M w w1)(j:nS w1 b a h H P w'):nS w M a h H P w':=by obtain⟨l,g1,g2,m⟩:=j;exact⟨l,g1,fun k hk=>(g2 k hk).elim (d k) fun e=>.inr (au i.size e),i.j8 m d⟩
theorem tC.Lp(hm:jL w F b d a h H P x)(i:∀k,F k\/b k\/d k->M k)(m:tC w b d a h P' w'):nS w M a h H P' w':=by
 obtain⟨G',O',x',h1,j,l⟩:=m;have hF:=hm.kQ.lt;refine⟨fun k=>M k\/G (Q w)<=k,⟨F,G',O',x',⟨hm.kQ.ext l hm.fg,h1,fun k hk e=>?_,fun k hk e=>?_⟩,fun k hk=>?_⟩,fun k hk=>hk,l.mono fun k hk=>i k (.inr (.inl hk))⟩
 .rcases j k (.inl e)with e|e|e
  .exact hm.fg k hk e
  .exact hm.fo k hk e
  .have:=hF k hk;omega
 .rcases j k (.inr e)with e|e|e
  .exact hm.fg k hk e
  .exact hm.fo k hk e
  .have:=hF k hk;omega
 .rcases hk with hk|hk
  .exact .inl (i k (.inl hk))
  .exact(j k hk).elim (fun e=>.inl (i k (.inr (.inl e)))) fun e=>e.imp (fun e=>i k (.inr (.inr e))) id
theorem IN:∃i,prog.info? 112=N i/\i.bytes=24:=by
 have h:(prog.info? 112).map (·.bytes)=N 24:=by kernel_rfl
 obtain⟨i,b,d⟩:=cH.1 h;exact⟨i,b,d⟩
theorem Nb(w:Q0):(Instr.makeChan 170 (I Y 6)).run prog w=.ok (.chan (N (G (Q w)))) (Ro w (.chan 6 #[] false 0 0 false)):=by obtain⟨i,b,d⟩:=IN;simpa using Conc.run_makeChan (P:=prog) (w:=w) underlying170 b Y 6 (by omega) (by rw[d];omega)
theorem Jm(H:gA):(ja H).1.dp=H.dp/\(ja H).1.gG=H.gG:=by unfold ja;split<;>exact⟨rfl,rfl⟩
theorem LX(h:Nat)(F:Nat->Prop)(H:gA)(B:Nat)(w:Q0)(s:iU w F h H)(i:iW H B)(f:Nat)(M:(ja H).2=N f):
  Rg prog 133 #[Rb 217 (Q9 #[Q5 (N ⟨h,0,J⟩)]),xi h] w fun e w'=>∃b c,e=Ra (Rc #[Q5 J,Rb 171 (Q5 (N ⟨b,0,J⟩))])/\w'.heap[b]?=N (Q1 #[I Y 12,I Y 0,Rb 188 (Q5 (N ⟨c,0,J⟩))] 186 (0,0))/\w'.heap[c]?=N (Q1 #[I Y ((f:Int)-2)] 191 (0,0))/\iU w' F h (ja H).1/\gR F w w':=by
 have u:=gj (Nj h F H B w s i f M);clear s i;unfold xi;go_enter func133,ntmps133;go_wp2_with fail;refine u.o.mono ?_;rintro e w1 ⟨v,rfl,x,j,l⟩;obtain⟨c,rfl,S,m⟩:=x;have y:=gj j;have C:=gj l;have q:=gj m;clear j l m;go_wp2_with fail;refine(Ba c w1).mono ?_;rintro e w2 ⟨rfl,d⟩;have D:Q8 (G (Q w1)) w1 w2:=by rw[d];exact(Below.rf w1).alloc gH _
 have E:w2.heap[G (Q w1)]?=N (Q1 #[I Y 12,I Y 0,Rb 188 (Q5 (N ⟨c,0,J⟩))] 186 (0,0)):=by rw[d];exact gB w1 _
 have r:=gj D;have R:=gj E;clear D E d;go_wp2;refine ai (v:=Rc #[Q5 J,Rb 171 (Q5 (N ⟨G (Q w1),0,J⟩))]) (by simp[results,results133,go_sem]) rfl ?_;exact⟨_,_,rfl,R.o,gC r.o (gm q.o) q.o,y.o.below r.o,C.o.trans (gR.gO r.o)⟩
theorem JF(h:Nat)(F:Nat->Prop)(H:gA)(B:Nat)(w:Q0)(hh:iU w F h H)(am:iW H B)(hg:gZ w)(bi:∀k,F k->2<=k)(iC v next:Nat)(T:List E)(hinv:j9 ni og iO [] (H.gG.map gN) (ik (O H.gG)) iC v T next)(hf:(ja H).2=J)(hv:v<18446744073709551616)(hT:O T<=100000000)(hS:O H.dp.S<=100000000)(hL:O H.dp.iF<=7500000000000)(ap:∀y∈H.dp.S,O y.1.2<=im)(bn:∀y∈T,O y.1.2<=im/\O y.2<=im)(ho:pT T H.dp.room=J):
  Rg prog 133 #[Rb 217 (Q9 #[Q5 (N ⟨h,0,J⟩)]),xi h] w fun e w'=>∃a,e=Ra (Rc #[Q5 (N ⟨a,0,J⟩),.nilIface])/\G (Q w)<=a/\nS w F a h ((ja H).1.qV T) ⟨lE v T,0,⟨jn H.gG,iC,next⟩⟩ w':=by
 have br:=gj (Ly h F H B w hh am hg bi iC v next T hinv hf);have d:=gj hh.lt;obtain⟨e1,e2⟩:=Jm H;rw[<-e1]at hS hL ap ho;have b3:=Nb;generalize bt:(ja H).1=H1 at *
 clear hh am hg bt e1 e2;unfold xi;go_enter func133,ntmps133;go_wp2_with fail;refine br.o.mono ?_;rintro e w1 ⟨lg,q,r,rfl,U,u,b4,b5,b6,b8,bv,av⟩;obtain⟨x,m⟩:=bv;have bw:=gj m;have aE:=gj U;have C:=gj u;have V:=gj av;obtain⟨f1,f2,f3⟩:=m.qL;have a0:=gj (BG 0 q r h x H1.dp T w1 u m.dp hT hS hL ap bn ux (fun e=>by have:=d.o h f1;omega) (fun e=>by have:=d.o q (f3 q e);omega) (fun e=>by have:=d.o _ f2;omega) (by rw[m.dp.room];exact ho));have bx:=gj (show ∀k,(k=h\/k=x.r\/Rl x.iF=N k)->F k from fun k e=>by
  rcases e with e|e|e
  .rw[e];exact f1
  .rw[e];exact f2
  .exact f3 k e)
 clear m U u av f1 f2 f3 hinv;unfold xi at a0;go_wp2_with fail;refine a0.o.mono ?_;rintro e w2 ⟨rfl,W⟩;have bz:=gj (bw.o.brought W);have s:gR (fun k=>F k) w1 w2:=W.2.mono bx.o;have a1:jl w2 lg h _:=s.at (fun e=>by have:=d.o lg e;omega) aE.o;have bA:=s.cell (p:=⟨q,0,J⟩) (fun e=>by have:=d.o q e;omega) C.o.cell;have a2:=C.o.jh.iI (s.block r C.o.jh.lt (fun e=>by have:=d.o r e;omega));have a3:=gj s;have a4:=gj a1;have a5:=gj a2;have bP:=gK bA;clear W s a1 a2;go_wp2;go_region;have j:Q8 (G (Q w2)) w2 ((Ro w2 (.chan 6 #[] false 0 0 false)).alloc (Q1 #[.map (N r),I Re (v:Nat),Q5 (N ⟨lg,0,J⟩),xi h,.chan (N (G (Q w2))),Q5 J,Q5 J] 174)).drew:=(Below.al (Below.al (Below.rf w2) _) _).drew;have D:=gB (Ro w2 (.chan 6 #[] false 0 0 false)) (Q1 #[.map (N r),I Re (v:Nat),Q5 (N ⟨lg,0,J⟩),xi h,.chan (N (G (Q w2))),Q5 J,Q5 J] 174);have X:=gP (Ro w2 (.chan 6 #[] false 0 0 false)) (Q1 #[.map (N r),I Re (v:Nat),Q5 (N ⟨lg,0,J⟩),xi h,.chan (N (G (Q w2))),Q5 J,Q5 J] 174) (gB w2 (.chan 6 #[] false 0 0 false));rw[aj]at D;unfold xi at j D X;have bB:((Ro w2 (.chan 6 #[] false 0 0 false)).alloc (Q1 #[.map (N r),I Re (v:Nat),Q5 (N ⟨lg,0,J⟩),Rb 116 (Q9 #[Q5 (N ⟨h,0,J⟩)]),.chan (N (G (Q w2))),Q5 J,Q5 J] 174)).drew.heap.size=G (Q w2)+2:=by show((Ro w2 _).alloc _).heap.size=_;rw[aj,aj]
 generalize Z:((Ro w2 (.chan 6 #[] false 0 0 false)).alloc (Q1 #[.map (N r),I Re (v:Nat),Q5 (N ⟨lg,0,J⟩),Rb 116 (Q9 #[Q5 (N ⟨h,0,J⟩)]),.chan (N (G (Q w2))),Q5 J,Q5 J] 174)).drew=R at j bB⊢;have a6:R.heap[G (Q w2)+1]?=N (Q1 #[.map (N r),I Re (v:Nat),Q5 (N ⟨lg,0,J⟩),Rb 116 (Q9 #[Q5 (N ⟨h,0,J⟩)]),.chan (N (G (Q w2))),Q5 J,Q5 J] 174 (0,0)):=by rw[<-Z];exact D
 have a7:R.heap[G (Q w2)]?=N (.chan 6 #[] false 0 0 false):=by rw[<-Z];exact X
 obtain⟨F',aa,l,bb⟩:=bz.o;have M:=aa.lt;have bI:lg<G (Q w1):=gm aE.o;have bR:r<G (Q w1):=C.o.jh.lt;have b9:=a3.o.size;have ag:l5 R (fun k=>k=G (Q w2)+1\/k=r\/k=lg\/k=G (Q w2)) (fun _=>False) (G (Q w2)+1) h ⟨⟨v,T,[],J,J⟩,0,⟨jn H.gG,iC,next⟩⟩ ⟨r,lg,G (Q w2),Q5 J,Q5 J⟩:=by refine⟨a6,a5.o.iI (j.block _ a5.o.lt),gC j (gm a4.o) a4.o,⟨0,0,[],a7,rfl,fun i b hi=>(by simp at hi),List.Pairwise.nil⟩,rfl,rfl,⟨.inl rfl,.inr (.inl rfl),.inr (.inr (.inl rfl)),.inr (.inr (.inr rfl))⟩,fun k hk=>?_,fun k hk=>hk.elim,fun k _=>id⟩;rcases hk with e|e|e|e<;>rw[e]<;>omega
 have a8:jL R F' (fun k=>k=G (Q w2)+1\/k=r\/k=lg\/k=G (Q w2)) (fun _=>False) (G (Q w2)+1) h (H1.qV T) ⟨⟨v,T,[],J,J⟩,0,⟨jn H.gG,iC,next⟩⟩ ⟨r,lg,G (Q w2),Q5 J,Q5 J⟩:=by
  refine⟨aa.below j,ag,fun k hk e=>?_,fun k _=>id⟩;have h1:=M k hk;rcases e with e|e|e|e
  .omega
  .rcases l k hk with h2|h2
   .have:=d.o k h2;omega
   .omega
  .rcases l k hk with h2|h2
   .have:=d.o k h2;omega
   .omega
  .omega
 have bD:=gj a8;have a9:=gj ((V.o.trans a3.o).trans (gR.gO j):gR F w R);have HM:=gj (show ∀k,F' k\/(k=G (Q w2)+1\/k=r\/k=lg\/k=G (Q w2))\/False->F k\/G (Q w)<=k from fun k hk=>by
  have h1:=V.o.size;rcases hk with hk|(e|e|e|e)|hk
  .exact(l k hk).imp id fun e=>by omega
  .exact .inr (by omega)
  .exact .inr (by omega)
  .exact .inr (by omega)
  .exact .inr (by omega)
  .exact hk.elim)
 have bE:=gj (show(G (Q w))<=G (Q w2)+1 by have:=V.o.size;omega);clear a8 Z a6 a7 D X j l bb M aa;go_wp2_with fail;refine(np (G (Q w2)+1) h _ _ _ _ R ag hv).mono ?_;rintro e w4 ⟨rfl,hp⟩;have HG:=gj (tC.Lp bD.o HM.o (hp.go (.inr (.inr (.inr rfl)))));clear hp ag;go_wp2;refine ai (v:=Rc #[Q5 (N ⟨G (Q w2)+1,0,J⟩),.nilIface]) (by simp[results,results133,go_sem]) rfl ?_;obtain⟨M',g1,g2,g3⟩:=HG.o;exact⟨_,rfl,bE.o,M',g1,fun k hk=>(g2 k hk).elim id fun e=>.inr (au a9.o.size e),a9.o.j8 g3 fun k hk=>hk⟩
end Go.Proofs.YtkkfmkhbdoeglabGreatDoor
