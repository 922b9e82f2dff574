/- Lemmas of the proof. No condition. -/
import Derived.Test.YtkkfmkhbdoeglabGreatDoorV32
set_option maxHeartbeats 4000000
set_option maxRecDepth 100000
namespace Go.Proofs.YtkkfmkhbdoeglabGreatDoor
open Go renaming World->Q0,Value->Q4,Calls->Rg
open Go.Ending renaming returned->Ra
open Go.IntKind renaming i64->Y,u64->Re
open Go.Obj renaming cells->Q1
open Go.RowKit renaming Below->Q8
open Go.Value renaming int->I,pointer->Q5,slice->Q6,string->Q7,agg->Q9,tuple->Rc,bool->Rh,ownBlock->Rl
open Go.World renaming heap->Q,cell?->Rn,alloc->Ro
open List renaming length->O,toArray->Rm
open Option renaming none->J,some->N
open _root_.Array renaming size->G
open Go.Proofs.Tryz
variable{B D k s:Nat}{S:List E}{maybe:List (Nat×List E)}{os:List kv}{p:iM}{w w8 wr:Q0}{z0 z2 z3 z4:Q4}
structure Ut(S:List E):Prop where
 sorted:gM S
 qM:∀x∈S,∃n,n<60/\x.1=T9 n
 mH:∀x∈S,jB x
theorem Ut.nil:Ut []:=⟨gM.nil,fun _ h=>(by cases h),fun _ h=>(by cases h)⟩
theorem Ux(c d:Int):∃n,n<60/\((Uw c d).table,(Uw c d).key)=T9 n:=by
 have h:=zD c 60 (by omega);refine⟨(uB c 60).toNat,by omega,?_⟩;unfold Uw;simp only;split
 .rfl
 .split<;>rfl
theorem T4:∀(m:Nat) (l:List Int) (os:List kv),O l<=m->(∀o∈os,∃n,n<60/\(o.table,o.key)=T9 n)->∀o∈TZ l os,∃n,n<60/\(o.table,o.key)=T9 n
 | _,[],_,_,h=>h
 | _,[_],_,_,h=>h
 | 0,a::b::r,os,hm,h=>by simp at hm
 | m+1,a::b::r,os,hm,h=>by
  unfold TZ;split
  .refine T4 m r _ (by simp at hm;omega) fun o d=>?_;split at d
   .exact h o d
   .rcases bQ.1 d with d|d
    .exact h o d
    .rw[ay.1 d];exact Ux a b
  .exact h
theorem Up(l:List Int):∀o∈T5 l,∃n,n<60/\(o.table,o.key)=T9 n:=
 T4 (O l) l _ gH fun o b=>by rw[ay.1 b];exact Ux _ _
theorem Ut.fold(h:Ut S)(l:List Int):Ut (iO S (T5 l)):=by
 refine⟨sm _ h.sorted,fun x b=>?_,((⟨aq _,h.sorted,h.mH⟩:lG (O S) S).fold (Uo l 1 (by decide))).mH⟩;rcases DG (T5 l) S x b with b|⟨o,d,-,e⟩
 .exact h.qM x b
 .obtain⟨n,i,j⟩:=Up l o d;exact⟨n,i,(bm Prod.fst e).trans j⟩
def UM:List E:=(List.range 60).map fun n=>(T9 n,[])
theorem Ut.count(h:Ut S)(t:Int):iq t S<=iq t UM:=yu h.sorted (fun x b=>by obtain⟨n,d,e⟩:=h.qM x b;exact aA.2 ⟨(T9 n,[]),aA.2 ⟨n,dC.2 d,rfl⟩,e.symm⟩) t
theorem Uc{a:iy}(b:a.l4=J)(d:lF (a.V+1) os=J):a.taken (vh 1 (tS (a.V+1) os))=(a,N (.delta (a.V+1) os)):=by unfold iy.taken;rw[b,Um];simp only[fS,ew,dA,dX];unfold iy.delta;rw[qD,UF _ _ d];simp only;rw[af (by omega),af (by omega)]
theorem UC{n:Nat}{l:List Int}(d:32<=n/\n<=128){H:gA}(h:j7 (rX n (gY l))=(H,.inl p)):H.fail=-1/\p.lg.next=2*ik n:=by
 obtain⟨j,m,o,f1,f2⟩:=(N9 ni og iO [] n (ik n)).found;have hl:((List.replicate n kL).map gN).length=n:=by simp
 have i:GM (List.replicate n kL)=(⟨jn (List.replicate n kL),0,2*ik n⟩,0,[]):=by unfold GM;simp only[hl];rw[f1];simp only;rw[f2 (n+1) (by omega)]
 obtain⟨m1,m2,m3,m4,m5⟩:=GG n l d;unfold j7 ja at h;rw[af (by rw[m5];omega)]at h;simp only at h;rw[m3,show(rX n (gY l)).held=List.replicate n kL from rfl,i]at h;simp only at h;rw[m4,(ng.nil n l).over]at h;simp only at h;injection h with h1 b;injection b with b;subst h1 b;exact⟨rfl,rfl⟩
theorem Uq{v:Nat}(h:lF v os=J):(tS v os).length<=150:=by
 have i:O os<=8/\jA 0 [] os=J:=by
  unfold lF at h;split at h
  .cases h
  .split at h
   .cases h
   .rename_i h1 l;exact⟨by omega,h⟩
 have b:∀o∈os,(lI o).length<=12:=by intro o j;obtain⟨k,hk,rfl⟩:=cZ j;obtain⟨m,d⟩:=mR os 0 [] i.2 k hk;exact(wV d).1
 have:=F8 v os (O os) b;unfold uA at this;rw[aM]at this;simp[tS,nC]at this⊢;omega
def Uj(n s B:Nat)(H:gA)(p:iM)(a:iy)(maybe:List (Nat×List E))(ever:List E)(taken:Nat)(b:Int):Prop:=
 uG n [] s B H (N p) a maybe ever false/\H.dp.ir=false/\(a.l4=J->Calm H/\Since n p taken b)
theorem Uj.start{n:Nat}(d:32<=n/\n<=128){H:gA}(h:j7 (rX n (gY []))=(H,.inl p))(i:uG n [] 0 480 H (N p) (lE 0 []) [(0,[])] [] false)(b:H.dp.ir=false)(hl:H.dp.left=-1):Uj n 0 480 H p (lE 0 []) [(0,[])] [] 0 (-4):=by obtain⟨h1,j⟩:=UC d h;exact⟨i,b,fun _=>⟨⟨h1,hl,b⟩,Since.zero j⟩⟩
def UL(n s B:Nat)(H':gA)(p':iM)(b:iy)(V taken:Nat)(d:Int):Prop:=
 p'.a=b/\H'.dp.ir=false/\0<=H'.il/\H'.il<=9223372036854775807/\
  ((b.V=V/\∃maybe ever,Uj n (s+2) (B+1000) {H' with il:=0,dp:={H'.dp with iF:=[]}} p' b maybe ever taken d)\/
   (b.V≠V/\(4<H'.il->4<=(taken:Int)+1-d)/\∃maybe ever,Uj n (s+2) (B+1000) {H' with il:=0,dp:={H'.dp with iF:=[]}} p' b maybe ever (taken+1) (if 4<H'.il then(taken:Int)+1 else d)))
theorem uG.UH{n:Nat}{l:List Int}{H:gA}{P:Option iM}{a:iy}{ever:List E}{armed:Bool}(h:uG n l s B H P a maybe ever armed):uG n l s B {H with dp:={H.dp with iF:=[]}} P a maybe ever armed:=⟨h.st.clean,fun _ _=>rfl,h.evl,h.B⟩
theorem uG.UG{n:Nat}{l:List Int}{H:gA}{P:Option iM}{a:iy}{ever:List E}{armed:Bool}(h:uG n l s B H P a maybe ever armed)(b:B+1000<=480+1000*s):uG n l s (B+1000) H P a maybe ever armed:=
 ⟨h.st.mono gH (fE _ _) fun _ h=>h,h.iF,h.evl,b⟩
theorem Uj.round{n:Nat}{H:gA}{a a1:iy}{ever:List E}{taken:Nat}{m:Int}{ot:Option iV}(h:Uj n s B H p a maybe ever taken m)(hs:s<=90000)(X:32<=n/\n<=128)(M:lF (a.V+1) os=J)(x:a.taken (vh 1 (tS (a.V+1) os))=(a1,ot)):
  UL n s B (mn {H with il:=0} p (vh 1 (tS (a.V+1) os))).1 (mn {H with il:=0} p (vh 1 (tS (a.V+1) os))).2 (match ot with|none=>a1|some tk=>a1.jO tk (gY []) n) a.V taken m:=by
 obtain⟨h1,o,Z⟩:=h;have y:=h1.uX;have hB:=h1.B;have j:({H with il:=0} : gA).dp.ir=false:=o;cases b:a.l4 with
 | some f=>
  have d:a.taken (vh 1 (tS (a.V+1) os))=(a.jM 13,J):=by unfold iy.taken;rw[b];rfl
  rw[d]at x;obtain⟨rfl,rfl⟩:=Prod.mk.inj x;obtain⟨g1,g2,r,g4⟩:=Lc y j d;rw[g1];refine⟨rfl,o,Int.le_refl _,by simp,.inl ⟨r,maybe,ever,(g2.UH.uX.UG (by omega)),o,fun e=>?_⟩⟩;have:=(xe d).2.2;simp only at e;rw[this,b]at e;cases e
 | none=>
  have d:=Uc (a:=a) (os:=os) b M;rw[d]at x;obtain⟨rfl,rfl⟩:=Prod.mk.inj x;obtain⟨e1,e2,e3,e4,e5,e6,R⟩:=Ld y j (by omega) d;obtain⟨u1,u2,u3,u4,u5,u6⟩:=y.up j;simp only;cases hl:jG ((iV.delta (a.V+1) os).T a.T) (gY []) n with
  | some f=>
   have u:(a.jO (.delta (a.V+1) os) (gY []) n).l4=N f/\(a.jO (.delta (a.V+1) os) (gY []) n).V=a.V:=by unfold iy.jO;rw[hl];obtain⟨C,D,-⟩:=lN {a with l4:=N f} 18 [UInt8.ofNat f.1];exact⟨C,D⟩
   obtain⟨f1,f2,f3,f4⟩:=R.full f u.1;generalize mn {H with il:=0} p (vh 1 (tS (a.V+1) os))=q at *
   obtain⟨H',p'⟩:=q;simp only at f1 f2 f4⊢;subst f1;refine⟨f2,o,Int.le_refl _,by simp,.inl ⟨u.2,_,_,(f4.UH.uX.UG (by omega)),o,fun e=>?_⟩⟩;rw[u.1]at e;cases e
  | none=>
   obtain⟨c1,c2⟩:=Z b;have hu:=((y.st.inv.up p rfl j).2.2.2.1 b).1;have hp:mn {H with il:=0} p (vh 1 (tS (a.V+1) os))=nz {H with il:=0} p (.delta (a.V+1) os):=by unfold mn;rw[u1,d];simp only;rw[<-u1]
   obtain⟨i,S,k,F,l,k5⟩:=Since.step (v:=a.V+1) (os:=os) c2 hu X ⟨c1.fail,c1.left,c1.ir⟩ (by rw[u1];exact hl) (Uq M);rw[<-hp]at i S F l;have u:(a.jO (.delta (a.V+1) os) (gY []) n).l4=J/\(a.jO (.delta (a.V+1) os) (gY []) n).V=a.V+1:=by unfold iy.jO;rw[hl];obtain⟨C,D,-⟩:=lN {a with V:=(iV.delta (a.V+1) os).V,T:=(iV.delta (a.V+1) os).T a.T} 17 (nC (iV.delta (a.V+1) os).V);exact⟨C.trans b,D⟩
   rcases R.up u.1 i.ir with ⟨g1,g2,r,g4⟩|⟨-,-,r,-⟩
   .generalize mn {H with il:=0} p (vh 1 (tS (a.V+1) os))=q at *
    obtain⟨H',p'⟩:=q;simp only at g1 g2 r g4 i S F l⊢;have U:=g4.st.nP.ok.il;have al:H'.il=(k:Int):=by rw[F];exact Int.zero_add _
    simp only at U;refine⟨g1,i.ir,by omega,by omega,.inr ⟨by omega,fun e=>k5 (by omega),_,_,g4.uX,i.ir,fun _=>⟨⟨i.fail,i.left,i.ir⟩,?_⟩⟩⟩;by_cases W:4<k
    .rw[aw W]at l;rw[aw (by omega)];exact l
    .rw[af W]at l;rw[af (by omega)];exact l
   .cases r
open Go.RowKit
def UK(a1:iy)(ot:Option iV)(n:Nat):iy:=match ot with|none=>a1|some tk=>a1.jO tk (gY []) n
def Uz(b W X A:Nat)(C:Nat->Prop)(t r ev:Q4)(mb n:Nat)(l:List Int)(H:gA)(P:Option iM)(a:iy)(ever:List E)(armed:Bool)(x:iy×Option iV)(D:Nat)(d:Q0):Prop:=
 ∃(j:Nat->Prop) (i g2:Q4) (b0:Bool) (m1 m2:Int) (s1:Option Addr) (n1 c1:Nat) (s2:Option Addr) (n2 c2:Nat) (m:Q0),nH d b (fun _ _=>False) W X A j C t i r g2 ev mb [A] n l H P x.1 [(a.V,a.T)] ever armed/\d.heap[D]?=N (Q1 #[Rh b0,I Re m1,I Re m2,Q6 s1 n1 c1,Q6 s2 n2 c2] 65 (0,0))/\J2 m d (Q9 #[Rh b0,I Re m1,I Re m2,Q6 s1 n1 c1,Q6 s2 n2 c2]) x.2/\(x.2.isSome=true->Og d A i (Q9 #[Rh b0,I Re m1,I Re m2,Q6 s1 n1 c1,Q6 s2 n2 c2]))/\¬KE A i D
section
variable {wq w10:Q0} {b W X A:Nat} {K C:Nat->Prop} {t o r g ev:Q4} {mb n:Nat} {l:List Int} {H:gA} {P:Option iM} {a:iy} {ever:List E} {armed:Bool} {x:iy×Option iV} {e:Ending}
theorem sV.UQ(h:nH wq b (fun _ _=>False) W X A K C t o r g ev mb [A] n l H P a [(a.V,a.T)] ever armed)(R:sV wq A n l t o r g x e w10)(s:x.1.V=a.V)(u:x.1.T=a.T):
  ∃(b0:Bool) (m1 m2:Int) (s1:Option Addr) (n1 c1:Nat) (s2:Option Addr) (n2 c2:Nat),e=Ra (Rc #[Q9 #[Rh b0,I Re m1,I Re m2,Q6 s1 n1 c1,Q6 s2 n2 c2],Rh x.2.isSome])/\∃(y:Nat->Prop) (m g2:Q4),nH w10 b (fun _ _=>False) W X A y C t m r g2 ev mb [A] n l H P x.1 [(a.V,a.T)] ever armed/\J2 wq w10 (Q9 #[Rh b0,I Re m1,I Re m2,Q6 s1 n1 c1,Q6 s2 n2 c2]) x.2/\(x.2.isSome=true->Og w10 A m (Q9 #[Rh b0,I Re m1,I Re m2,Q6 s1 n1 c1,Q6 s2 n2 c2])/\∀j,Dh (Q9 #[Rh b0,I Re m1,I Re m2,Q6 s1 n1 c1,Q6 s2 n2 c2]) j->G (Q wq)<=j/\j<G (Q w10))/\Q8 b wq w10/\gR (KE A o) wq w10/\(∀j,K j->y j)/\(∀j,Rl m=N j->Rl o=N j\/G (Q wq)<=j)/\∀j,Rl g2=N j->Rl g=N j\/G (Q wq)<=j:=by
 obtain⟨v,rfl,d,B,D⟩:=R;obtain⟨b0,m1,m2,s1,n1,c1,s2,n2,c2,rfl⟩:=d.agg;obtain⟨Z,g1,S,i,E,F⟩:=B;refine⟨b0,m1,m2,s1,n1,c1,s2,n2,c2,rfl,?_⟩;obtain⟨a',ot⟩:=x;cases ot with
 | none=>obtain⟨u1,u2⟩:=h.Nz S i E F s u;exact⟨_,_,_,u1,d,fun e=>by simp at e,u2,i,fun _=>.inl,E,F⟩
 | some tk=>obtain⟨gq,U,M⟩:=D rfl;obtain⟨u1,u2⟩:=h.Nz U i (fun j e=>.inl e) M s u;refine⟨_,_,_,u1,d,fun _=>⟨fun j q=>?_,fun j q=>d.owns j q⟩,u2,i,fun _=>.inl,fun j e=>.inl e,M⟩;obtain⟨z1,z2⟩:=d.owns j q;exact⟨fun e=>by have:=h.x.lt A h.kA.1;omega,fun e=>by have:=gS.iA h.rg.out.own j e;omega,z2⟩
theorem Uz.store{i w1:Q0}{b0:Bool}{m1 m2:Int}{s1:Option Addr}{n1 c1:Nat}{s2:Option Addr}{n2 c2:Nat}{s:Q4}(h:nH w1 b (fun _ _=>False) W X A K C t o r g ev mb [A] n l H P x.1 [(a.V,a.T)] ever armed)(u:J2 i (oB w1 D (Rh b0) (I Re m1) (I Re m2) (Q6 s1 n1 c1) (Q6 s2 n2 c2)) (Q9 #[Rh b0,I Re m1,I Re m2,Q6 s1 n1 c1,Q6 s2 n2 c2]) x.2)(m:x.2.isSome=true->Og w1 A o (Q9 #[Rh b0,I Re m1,I Re m2,Q6 s1 n1 c1,Q6 s2 n2 c2])/\∀j,Dh (Q9 #[Rh b0,I Re m1,I Re m2,Q6 s1 n1 c1,Q6 s2 n2 c2]) j->j≠D)(y:w1.heap[D]?=N (Q1 #[z0,s,z2,z3,z4] 65 (0,0)))(hF:K D)(B:b<=D)(d:D≠A/\D≠W/\¬C D/\Rl o≠N D/\Rl g≠N D/\Rl ev≠N D):
  Uz b W X A C t r ev mb n l H P a ever armed x D (oB w1 D (Rh b0) (I Re m1) (I Re m2) (Q6 s1 n1 c1) (Q6 s2 n2 c2))/\Q8 b w1 (oB w1 D (Rh b0) (I Re m1) (I Re m2) (Q6 s1 n1 c1) (Q6 s2 n2 c2)):=by
 have q:=yc w1 D (Rh b0) (I Re m1) (I Re m2) (Q6 s1 n1 c1) (Q6 s2 n2 c2);obtain⟨u1,u2⟩:=h.aside q hF B d;refine⟨⟨K,o,g,b0,m1,m2,s1,n1,c1,s2,n2,c2,i,u1,Am y _ _ _ _ _,u,fun E j F=>?_,fun e=>e.elim (fun e=>d.1 e) fun e=>d.2.2.2.1 e⟩,u2⟩
 .obtain⟨M,R,S⟩:=(m E).1 j F;exact⟨M,R,ae S q.size⟩
theorem Uz.cell{D:Nat}{d:Q0}(h:Uz b W X A C t r ev mb n l H P a ever armed x D d):Rn d ⟨W,1,J⟩=N (Q5 (N ⟨A,0,J⟩)):=by obtain⟨j,m,g2,b0,m1,m2,s1,n1,c1,s2,n2,c2,o,i,-⟩:=h;exact i.cells.2.1
theorem Uz.first{s:Q4}(q:nH w8 b (fun _ _=>False) W X A K C t o r g ev mb [A] n l H P a [(a.V,a.T)] ever armed)(i:Q8 (G (Q w8)) w8 wq)(R:sV wq A n l t o r g x e w10)(S:x.1.V=a.V)(U:x.1.T=a.T)(u:wq.heap[D]?=N (Q1 #[z0,s,z2,z3,z4] 65 (0,0)))(m:G (Q w8)<=D):
  ∃(b0:Bool) (m1 m2:Int) (s1:Option Addr) (n1 c1:Nat) (s2:Option Addr) (n2 c2:Nat),e=Ra (Rc #[Q9 #[Rh b0,I Re m1,I Re m2,Q6 s1 n1 c1,Q6 s2 n2 c2],Rh x.2.isSome])/\Rn w10 ⟨W,1,J⟩=N (Q5 (N ⟨A,0,J⟩))/\w10.heap[D]?=N (Q1 #[z0,s,z2,z3,z4] 65 (0,0))/\gy (Uz b W X A C t r ev mb n l H P a ever armed x D (oB w10 D (Rh b0) (I Re m1) (I Re m2) (Q6 s1 n1 c1) (Q6 s2 n2 c2))/\Q8 b w8 (oB w10 D (Rh b0) (I Re m1) (I Re m2) (Q6 s1 n1 c1) (Q6 s2 n2 c2))):=by
 have h:=q.grow i;have y:=gm u;obtain⟨b0,m1,m2,s1,n1,c1,s2,n2,c2,he,K2,o2,g2,B,Z,E,q4,q5,q6,q7,q8⟩:=sV.UQ h R S U;obtain⟨f1,f2,f3,f4,f5,f6,f7⟩:=q.rU m;have F:¬KE A o D:=fun e=>e.elim (fun e=>f2 e) fun e=>f5 e;have d:=q5.at F u;obtain⟨g0,g1⟩:=Uz.store (b0:=b0) (m1:=m1) (m2:=m2) (s1:=s1) (n1:=n1) (c1:=c1) (s2:=s2) (n2:=n2) (c2:=c2) B (Z.ext (yc w10 D _ _ _ _ _) fun j h1 h2 e=>by have e2:j=D:=e;omega) (fun M=>⟨(E M).1,fun j hj e=>by have:=((E M).2 j hj).1;omega⟩) d (q6 D (.inr ⟨m,y⟩)) f1 ⟨f2,f3,f4,fun e=>(q7 D e).elim f5 fun e=>by omega,fun e=>(q8 D e).elim f6 fun e=>by omega,f7⟩;exact⟨b0,m1,m2,s1,n1,c1,s2,n2,c2,he,B.cells.2.1,d,gj ⟨g0,((i.mono q.lt).trans q4).trans g1⟩⟩
theorem Uz.after(y:nH w8 b (fun _ _=>False) W X A K C t o r g ev mb [A] n l H P a [(a.V,a.T)] ever armed)(m:Q8 (G (Q w8)) w8 wq)(B:sV wq A n l t o r g x e w10)(D:x.1.V=a.V)(E:x.1.T=a.T):
  ∃(b0:Bool) (m1 m2:Int) (s1:Option Addr) (n1 c1:Nat) (s2:Option Addr) (n2 c2:Nat),e=Ra (Rc #[Q9 #[Rh b0,I Re m1,I Re m2,Q6 s1 n1 c1,Q6 s2 n2 c2],Rh x.2.isSome])/\Rn w10 ⟨W,1,J⟩=N (Q5 (N ⟨A,0,J⟩))/\gy (Uz b W X A C t r ev mb n l H P a ever armed x (G (Q w10)) (w10.alloc (Q1 #[Rh b0,I Re m1,I Re m2,Q6 s1 n1 c1,Q6 s2 n2 c2] 65))/\Q8 b w8 (w10.alloc (Q1 #[Rh b0,I Re m1,I Re m2,Q6 s1 n1 c1,Q6 s2 n2 c2] 65))):=by
 have h:=y.grow m;obtain⟨b0,m1,m2,s1,n1,c1,s2,n2,c2,he,U,F,g2,i,M,q,R,Z,q6,q7,q8⟩:=sV.UQ h B D E;have d:Q8 (G (Q w10)) w10 (w10.alloc (Q1 #[Rh b0,I Re m1,I Re m2,Q6 s1 n1 c1,Q6 s2 n2 c2] 65)):=(Below.rf w10).al _;exact⟨b0,m1,m2,s1,n1,c1,s2,n2,c2,he,i.cells.2.1,gj ⟨⟨_,F,g2,b0,m1,m2,s1,n1,c1,s2,n2,c2,wq,i.grow d,gB w10 _,M.ext (gR.gO (S:=fun _=>False) d) fun _ _ _ e=>e,fun s j u=>⟨((q s).1 j u).1,((q s).1 j u).2.1,ae ((q s).1 j u).2.2 d.size⟩,fun e=>e.elim (fun e=>(i.rU gH).2.1 e) fun e=>(i.rU gH).2.2.2.2.1 e⟩,((m.mono y.lt).trans R).trans (d.mono i.lt)⟩⟩
end
open Go.Shelf
def T1(n:Nat)(w:Q0)(W X taken:Nat)(b:Int)(k:Nat)(wr:Q0):Prop:=∃A K C t o r g mb H p a d i s B,nH wr (G (Q w)) (fun _ _=>False) W X A K C t o r g (Q6 J 0 0) mb [A] n [] H (N p) a [(a.V,a.T)] [] false/\Uj n s B H p a d i taken b/\s<=2*k/\taken<=k/\-4<=b/\b<=k/\Q8 (G (Q w)) w wr
theorem T1.mono{n:Nat}{W X taken:Nat}{b:Int}(h:T1 n w W X taken b k wr):T1 n w W X taken b (k+1) wr:=by obtain⟨A,K,C,t,o,r,g,mb,H,p,a,d,i,s,B,h1,j,q,u,l,x,m⟩:=h;exact⟨A,K,C,t,o,r,g,mb,H,p,a,d,i,s,B,h1,j,by omega,by omega,l,by omega,m⟩
theorem T1.below{n:Nat}{W X taken:Nat}{b:Int}{w':Q0}(h:T1 n w W X taken b k wr)(d:Q8 (G (Q wr)) wr w'):T1 n w W X taken b k w':=by obtain⟨A,K,C,t,o,r,g,mb,H,p,a,i,j,s,B,h1,l,m,q,u,x,y⟩:=h;exact⟨A,K,C,t,o,r,g,mb,H,p,a,i,j,s,B,h1.below d,l,m,q,u,x,y.tn d⟩
theorem Uk(E:Int)(v:Q4)(l:List (Nat×List kv))(w:Q0)(kk:Fv w v l)(en:gZ w)(eo:kM w):
  Rg prog 4 #[I Y E,v] w fun e w'=>e=Ra (Rh true)/\Q8 (G (Q w)) w w':=by
 obtain⟨n,kp⟩:∃n:Nat,(n:Int)=min (max E 32) 128:=⟨(min (max E 32) 128).toNat,by omega⟩;have cq:32<=n/\n<=128:=by omega
 obtain⟨H0,p0,b,h2,h3,h4,h5,h6⟩:=kx.begun n [] cq;have er:=gj (Uf E [] (Q6 J 0 0) w (fun _ _=>False) (fun _ _ h=>h.elim) (gE.nil _ _ _ _) (by simp) n kp en eo H0 p0 b h5 h6);have eD:=gj (fun j3=>Uj.start cq b j3 h3 h4);obtain⟨va,vc,rfl,ip,j1⟩:=kk;have HX:=gj j1;clear j1 kp en eo b h2 h3 h4 h5 h6;go_enter func4,ntmps4;go_wp2_with fail;refine er.o.mono ?_;rintro e w1 ⟨W,X,rfl,⟨A0,K0,C0,o0,r0,gn,cs,eS⟩,eT⟩;have ct:gy (T1 n w W X 0 (-4) 0 w1):=gj ⟨A0,K0,C0,_,o0,r0,_,gn,H0,p0,_,_,_,0,480,by rw[(nh 0 []).1,(nh 0 []).2.1];exact cs,eD.o eS,by omega,by omega,by omega,by omega,eT⟩;clear cs eS eT;go_wp2_with fail;go_loopw [7,8,9] (fun mv tv kn wr=>∃(k taken:Nat) (i:Int),k<=O l/\k<=300/\kn=I Y (k:Int)/\tv=I Y (taken:Int)/\mv=I Y i/\T1 n w W X taken i k wr) (fun _ _ kn _=>O l-(intOf kn).toNat)
 case atStart=>exact⟨0,0,-4,aJ _,by omega,rfl,rfl,rfl,ct.o⟩
 case round=>
  obtain⟨k,taken,i,hk,iv,rfl,rfl,rfl,hrel⟩:=hrel;clear ct eD;have HR:=gj hrel;by_cases eV:k<O l/\k<300
  .obtain⟨gp,hO⟩:=eV;have hP:(k:Int)<(O l:Int):=by omega
   have hH:(k:Int)<300:=by omega
   obtain⟨A,K,C,t,o,r,g,mb,H,p,a,gq,gs,s,B,hw,j3,gt,gu,gv,gx,kd⟩:=hrel;obtain⟨db,e1,sv,rfl,x0,x1,bH,bI,-⟩:=HX.o k gp;generalize l[k].1=i0 at x0;generalize l[k].2=os at bH bI;have d0:=(kd.cell (p:=⟨db,e1+k*2,J⟩) (gK x0)).trans x0;have d1:=(kd.cell (p:=⟨db,e1+k*2+1,J⟩) (gK x1)).trans x1;have g0:=gK d0;have bL:=gj (bH.below kd);obtain⟨-,sa,sc,rfl,-,-⟩:=bH;obtain⟨c0,c1,-,-,-,d⟩:=hw.cells;have kl:=gr 0 hw.rg.row;have b4:=gm hw.rg.row;obtain⟨u1,u2,u3,u4,u5,u6⟩:=j3.1.up j3.2.1;have i1:a.V<18446744073709551615:=u3.v;have i2:IntKind.u64.wrap ((a.V:Int)+1)=(a.V:Int)+1:=by have h:∀x:Int,IntKind.u64.wrap x=x%18446744073709551616:=fun _=>rfl;rw[h];omega
   have HW:=gj hw;have HS:=gj j3;have HB:=gj kd;have D2:=gB wr (Q1 #[I Re ((a.V:Int)+1),Q6 sa (O os) sc] 51);have bs:Q8 (G (Q wr)) wr (Ro wr (Q1 #[I Re ((a.V:Int)+1),Q6 sa (O os) sc] 51)):=(Below.rf wr).al _;clear x0 x1 hw j3 kd u1 u2 u3 u4 u5 u6;go_upto_region 11 with fail;generalize Ro wr (Q1 #[I Re ((a.V:Int)+1),Q6 sa (O os) sc] 51)=w2 at *
   have a4:=gj bs;obtain⟨e0,kf,bv⟩:=xc D2;clear d0 d1 g0 c0 c1 kl d b4 bs D2;cases ag:lF (a.V+1) os with
   | some f=>
    have g7:=vy ag;have bc:=gj (CT (a.V+1) (Q6 sa (O os) sc) os w2 (bL.o.below a4.o) bI (by omega) f ag);have i3:((f.1:Int) != 0)=true:=by rw[eB];omega
    clear ag g7;go_wp2_with fail;refine bc.o.mono ?_;rintro e w3 ⟨rfl,bw⟩;have a5:=gj (a4.o.tn bw);clear bw e0 kf bv;have a6:Q8 (G (Q wr)) wr (Ro w3 (Q1 #[I Y (f.1:Int),I Y (f.2:Int)] 31)):=a5.o.alloc a5.o.size _;have ak:=gj (HR.o.below a6).mono;clear a6;go_wp2_with fail;go_roundw
    case rel=>exact⟨k+1,taken,i,by omega,by omega,by go_num,rfl,rfl,ak.o⟩
    case measure=>simp[intOf];omega
   | none=>
    have g8:=Uq ag;have e2:=gj ag;have bc:=gj (BL (a.V+1) (Q6 sa (O os) sc) os w2 (bL.o.below a4.o) bI ag);clear ag;go_wp2_with fail;refine bc.o.mono ?_;rintro e w3 ⟨rfl,bw⟩;have a5:=gj (a4.o.tn bw);clear bw e0 kf bv bc;obtain⟨sb,c2⟩:∃sb,sb=tS (a.V+1) os:=⟨_,rfl⟩;rw[<-c2]at g8⊢;have e3:=gj c2;clear c2;have a6:Q8 (G (Q wr)) wr (Ro w3 (Q1 #[I Y 0,I Y 0] 31)):=a5.o.alloc a5.o.size _;go_upto_region 13 with fail;generalize Ro w3 (Q1 #[I Y 0,I Y 0] 31)=w4 at *
    have H4:=gj (HW.o.below a6);have g9:=gj (HB.o.tn a6);obtain⟨c0,c1,-,-,-,d⟩:=H4.o.cells;have kl:=gr 0 H4.o.rg.row;have b4:=gm H4.o.rg.row;clear a6 a5;go_wp2_with fail;refine(vB _ X H (N p) w4 H4.o.x).mono ?_;rintro e w5 ⟨rfl,c3,c4⟩;obtain⟨H1,b5⟩:∃H1:gA,H1={H with il:=0}:=⟨_,rfl⟩;rw[<-b5]at c3;have H5:=gj (H4.o.kQ c4 c3);have hb:=gj (g9.o.trans (c4.below H4.o.lt H4.o.kb));have hd:=gj b5;have e4:gy (Mq n [] B H1 p):=gj (by rw[b5];exact HS.o.1.uX.ready HS.o.2.1 (by omega));clear c3 c4 c0 c1 kl d b4 b5;obtain⟨c0,-,-,-,-,d⟩:=H5.o.cells;obtain⟨j2,b6⟩:∃j2,j2=vh 1 sb:=⟨_,rfl⟩;have hf:O j2<=1000000:=by rw[b6];simp[vh,yX];omega
    have b8:gy (∀W',Rg prog 28 #[I Y 1,Q7 ⟨Rm sb⟩] W' fun e w'=>e=Ra (Q7 ⟨Rm j2⟩)/\Q8 (G (Q W')) W' w'):=gj (fun W'=>by rw[b6];exact pB 1 sb W' (by unfold im;omega));have e5:=gj b6;obtain⟨H2,c5⟩:∃H2:gA,H2=(mn H1 p j2).1:=⟨_,rfl⟩;obtain⟨F,c6⟩:∃F:iM,F=(mn H1 p j2).2:=⟨_,rfl⟩;have e6:gy (∀w',Q8 (G (Q w5)) w5 w'->Rg prog 27 #[Q5 (N ⟨X,0,J⟩),Q7 ⟨Rm j2⟩] w' fun e c7=>e=Ra (Rc #[])/\nH c7 (G (Q w)) (fun _ _=>False) W X A K C t o r g (Q6 J 0 0) mb [A] n [] H2 (N F) a [(a.V,a.T)] [] false/\Q8 (G (Q w)) w5 c7):=gj (fun w' ap=>(yk _ X _ p w' j2 (H5.o.below ap).x e4.o hf).mono fun e c7 hp=>by obtain⟨q1,q2,q3⟩:=hp;rw[<-c5,<-c6]at q2;exact⟨q1,(H5.o.below ap).kQ q3 q2,(ap.mono H5.o.lt).trans (q3.below (H5.o.below ap).lt (H5.o.below ap).kb)⟩);have hg:=gj c5;have hh:=gj c6;clear b6 c5 c6;go_upto_region 15 with fail
    go_region_held3 (fun w'=>Rn w' ⟨W,0,J⟩=N (Q5 (N ⟨X,0,J⟩)))
     (first|exact c0|exact(e7.o.cell (p:=⟨W,0,J⟩) d).trans c0|exact H7.o.cells.1)
     (first
       | (go_at_call 28;refine(b8.o _).mono ?_;rintro e w6 ⟨rfl,c8⟩;have e7:gy (Q8 (G (Q w5)) w5 w6):=gj (by first|exact c8|exact(Below.rf w5).drew.tn c8);clear c8)
       | (go_at_call 27;refine(e6.o _ e7.o).mono ?_;rintro e w7 ⟨rfl,h7,e8⟩;have H7:=gj h7;have hj:=gj e8;clear h7 e8))
    have f1:=gj (hb.o.trans hj.o);clear c0 d e6;obtain⟨c0,-,-,-,-,d⟩:=H7.o.cells;go_wp2_with fail;refine(vB _ X H2 (N F) w7 H7.o.x).mono ?_;rintro e w8 ⟨rfl,e9,c9⟩;have H8:=gj (H7.o.kQ c9 e9);have hn:=gj (f1.o.trans (c9.below H7.o.lt H7.o.kb));clear e9 c9 c0 d;obtain⟨-,c1,-,-,-,d⟩:=H8.o.cells;obtain⟨a1,ot,a7⟩:∃(a1:iy) (ot:Option iV),a.taken j2=(a1,ot):=⟨_,_,rfl⟩;have av:=HS.o.1.uX;obtain⟨u1,u2,u3,u4,u5,u6⟩:=av.up HS.o.2.1;have R:gy (a1.V=a.V/\a1.T=a.T):=gj (by
     cases ot with
     | none=>exact⟨(xe a7).1,(xe a7).2.1⟩
     | some tk=>obtain⟨g1,g2,-⟩:=Ld av HS.o.2.1 (by omega) a7;exact⟨g1,g2⟩)
    have bx:gy (∀w',Q8 (G (Q w8)) w8 w'->Rg prog 29 #[Q5 (N ⟨A,0,J⟩),Q7 ⟨Rm j2⟩] w' (sV w' A n [] t o r g (a1,ot))):=gj (fun w' ap=>by have h:=E1 A n [] t o r g a j2 w' (H8.o.below ap).rg u3 (by omega) fun f e=>(u4 f e).1;rw[a7]at h;exact h);have b9:=gj a7;clear av u1 u2 u3 u4 u5 u6 a7;obtain⟨H3,da⟩:∃H3:gA,H3={H2 with il:=0}:=⟨_,rfl⟩;rw[<-da]at H8;have dc:=gj da;clear da;go_upto_region 17 with fail;go_cut [15,16]from 80 to 89 (fun dv kv wx=>∃(bt:Bool) (D:Nat),kv=Rh bt/\bt=ot.isSome/\dv=Q5 (N ⟨D,0,J⟩)/\Uz (G (Q w)) W X A C t r (Q6 J 0 0) mb n [] H3 (N F) a [] false (a1,ot) D wx/\Q8 (G (Q w)) w8 wx)
    case first=>
     have cd:=((Below.rf w8).drew.cell (p:=⟨W,1,J⟩) d).trans c1;have ks:=(((Below.rf w8).al (Q1 #[Rh false,I Re 0,I Re 0,Q6 J 0 0,Q6 J 0 0] 65)).drew.cell (p:=⟨W,1,J⟩) d).trans c1;have kt:=(((Below.rf w8).al (Q1 #[Rh false,I Re 0,I Re 0,Q6 J 0 0,Q6 J 0 0] 65)).cell (p:=⟨W,1,J⟩) d).trans c1
     go_region_held3 (fun w'=>Rn w' ⟨W,1,J⟩=N (Q5 (N ⟨A,0,J⟩)))
      (first|with_reducible exact c1|with_reducible exact cd|with_reducible exact ks|with_reducible exact kt|with_reducible exact kq|with_reducible exact hr|with_reducible exact bz|with_reducible exact f3|with_reducible exact bi|(have q:=bi;exact q))
      (first
        | (go_at_call 28;refine(b8.o _).mono ?_;rintro e w9 ⟨rfl,bB⟩
           first
           | (have m:gy (Q8 (G (Q w8)) w8 w9):=gj ((Below.rf w8).drew.tn bB);have kq:=(m.o.cell (p:=⟨W,1,none⟩) d).trans c1;have hr:=((m.o.tn ((Below.rf w9).al (Q1 #[Rh false,I Re 0,I Re 0,Q6 J 0 0,Q6 J 0 0] 65))).cell (p:=⟨W,1,none⟩) d).trans c1;clear bB)
           | (have m:gy (Q8 (G (Q w8)) w8 w9):=gj (((Below.rf w8).al (Q1 #[Rh false,I Re 0,I Re 0,Q6 J 0 0,Q6 J 0 0] 65)).drew.tn bB)
              have hs:=gj (oI bB (show(Ro w8 (Q1 #[Rh false,I Re 0,I Re 0,Q6 J 0 0,Q6 J 0 0] 65)).drew.heap[G (Q w8)]?=N (Q1 #[Rh false,I Re 0,I Re 0,Q6 J 0 0,Q6 J 0 0] 65 (0,0))from gB w8 _));have kq:=(m.o.cell (p:=⟨W,1,J⟩) d).trans c1;clear bB))
        | (go_at_call 29
           first
           | (refine(bx.o _ m.o).mono ?_;rintro e w10 U;obtain⟨b0,m1,m2,s1,n1,k1,s2,n2,k2,rfl,bz,M,HG⟩:=Uz.first H8.o m.o U R.o.1 R.o.2 hs.o gH;have bi:=HG.out.1.cell;obtain⟨r0,r1,r2,r3,r4,bv⟩:=lB M;obtain⟨y0,y1,y2,y3,y4⟩:=oS M;clear U M)
           | (refine(bx.o _ (m.o.tn ((Below.rf w9).al (Q1 #[Rh false,I Re 0,I Re 0,Q6 J 0 0,Q6 J 0 0] 65)))).mono ?_;rintro e w10 U;obtain⟨b0,m1,m2,s1,n1,k1,s2,n2,k2,rfl,bz,M,HG⟩:=Uz.first H8.o (m.o.tn ((Below.rf w9).al (Q1 #[Rh false,I Re 0,I Re 0,Q6 J 0 0,Q6 J 0 0] 65))) U R.o.1 R.o.2 (gB w9 _) m.o.size;have bi:=HG.out.1.cell;obtain⟨r0,r1,r2,r3,r4,bv⟩:=lB M;obtain⟨y0,y1,y2,y3,y4⟩:=oS M;clear U M)
           | (refine(bx.o _ m.o).mono ?_;rintro e w10 U;obtain⟨b0,m1,m2,s1,n1,k1,s2,n2,k2,rfl,bz,HG⟩:=Uz.after H8.o m.o U R.o.1 R.o.2;have f3:=(((Below.rf w10).al (Q1 #[Rh false,I Re 0,I Re 0,Q6 J 0 0,Q6 J 0 0] 65)).cell (p:=⟨W,1,none⟩) (gK bz)).trans bz;have bi:=HG.out.1.cell;clear U)))
     all_goals
      go_wp2_with fail;go_meet
      first
       | exact⟨_,_,rfl,rfl,rfl,HG.out.1,HG.out.2⟩
    case rest=>
     obtain⟨bt,D,rfl,Z,rfl,dk,fb⟩:=hcut;obtain⟨bA,dl⟩:∃bA:iy,bA=UK a1 ot n:=⟨_,rfl⟩;have dn:gy (UL n s B H2 F bA a.V taken i):=gj (by have q1:=e3.o;have q2:=e5.o;have q3:=hd.o;have q4:=hg.o;have q5:=hh.o;have q6:=b9.o;subst dl q5 q4 q3 q2 q1;have h1:=Uj.round (a1:=a1) (ot:=ot) HS.o (by omega) cq e2.o q6;cases ot<;>exact h1);have dp:=gj (hn.o.trans fb);have fd:=gj dl;have fg:=gj dk;have fi:=gj Z;clear dk fb dl Z;go_upto_if 90 with fail;go_cut [15]from 91 to 96 (fun dv wy=>∃(K3 C3:Nat->Prop) (t3 o3 g3:Q4),nH wy (G (Q w)) (fun _ _=>False) W X A K3 C3 t3 o3 r g3 (Q6 J 0 0) mb [A] n [] H3 (N F) bA [(bA.V,bA.T)] [] false/\Q8 (G (Q w)) w wy)
     case first=>
      obtain⟨K2,o2,g2,b0,m1,m2,s1,n1,k1,s2,n2,k2,w0,aE,bl,ca,bE,ds⟩:=fg.o;cases ot with
      | none=>have Z:=fi.o;simp at Z;subst Z;have dT:gy (∃(K3 C3:Nat->Prop) (t3 o3 g3:Q4),nH wc (G (Q w)) (fun _ _=>False) W X A K3 C3 t3 o3 r g3 (Q6 J 0 0) mb [A] n [] H3 (N F) bA [(bA.V,bA.T)] [] false/\Q8 (G (Q w)) w wc):=gj (by have kf:bA=a1:=fd.o;rw[kf,R.o.1,R.o.2];exact⟨_,_,_,_,_,aE,dp.o⟩);clear aE bl ca bE ds;go_wp2_with fail;go_meet;exact dT.o
      | some tk=>
       have Z:=fi.o;simp at Z;subst Z;have av:=HS.o.1.uX;obtain⟨g1,hv,g3,g4,g5,g6,-⟩:=Ld av HS.o.2.1 (by omega) b9.o;obtain⟨-,-,u3,u4,-,u6⟩:=av.up HS.o.2.1;obtain⟨rfl,rfl⟩:a1=a/\tk=.delta (a.V+1) os:=by
        have h1:=b9.o;cases fk:a.l4 with
        | some f=>unfold iy.taken at h1;rw[fk]at h1;simp at h1
        | none=>have h2:=Uc fk e2.o;rw[<-e3.o,<-e5.o,h1]at h2;simp at h2;exact h2
       have fl:∀j,¬Dh (Q9 #[Rh b0,I Re m1,I Re m2,Q6 s1 n1 k1,Q6 s2 n2 k2]) j:=by obtain⟨sv,kf,-⟩:=ca;rw[kf];rintro j ⟨b',x1,x2,x3,x4,kr,kw⟩;simp at kr;obtain⟨-,-,-,-,rfl⟩:=kr;simp[Value.ownBlock]at kw
       have hx:=g6.len;have cb:Q8 (G (Q wc)) wc wc.drew:=(Below.rf wc).drew;have bn:=aE.below cb
       have cc:=E3 A n [] t o2 r g2 (Q9 #[Rh b0,I Re m1,I Re m2,Q6 s1 n1 k1,Q6 s2 n2 k2]) a1 (.delta (a1.V+1) os) w0 wc.drew bn.rg (ca.ext (gR.gO (S:=fun _=>False) cb) fun _ _ _ e=>e) (fun j ko=>⟨(bE rfl j ko).1,(bE rfl j ko).2.1,ae (bE rfl j ko).2.2 cb.size⟩) g6.nP g5.out u6.sorted (by omega) (by omega) (by have:=u6.len;omega) (by omega)
        (fun x j1=>by have:=(u6.mH x j1).short;unfold im;omega) (fun x j1=>by have:=(g6.mH x j1).short;unfold im;omega) (by have:=yd 6 ((iV.delta (a1.V+1) os).T a1.T) fun x j1=>(g6.mH x j1).short;omega)
       have em:=gj cc;obtain⟨d0,d1,d2,d3,d4,bv⟩:=lB bl;obtain⟨-,c1,-,-,-,d⟩:=aE.cells;have f5:=gj bn;have hy:=gj fl;have hz:=gj ds;have f6:gy (wc.drew.heap[D]?=N (Q1 #[Rh b0,I Re m1,I Re m2,Q6 s1 n1 k1,Q6 s2 n2 k2] 65 (0,0))):=gj bl;clear ds aE bn cb bl ca bE fl cc hx g1 hv g3 g4 g5 g6 u3 u4 u6 av bx b8;go_upto_region 19 with fail
       go_region_held3 (fun w'=>Rn w' ⟨W,1,J⟩=N (Q5 (N ⟨A,0,J⟩))/\Rn w' ⟨D,0,J⟩=N (Rh b0)/\Rn w' ⟨D,1,J⟩=N (I Re m1)/\Rn w' ⟨D,2,J⟩=N (I Re m2)/\Rn w' ⟨D,3,J⟩=N (Q6 s1 n1 k1)/\Rn w' ⟨D,4,J⟩=N (Q6 s2 n2 k2))
        (first|exact⟨c1,d0,d1,d2,d3,d4⟩|exact⟨hA,z0,z1,z2,z3,z4⟩)
        ((go_at_call 30;refine em.o.mono ?_;rintro e fn ⟨dv,rfl,hB,f7,t',o',fo,hC,j1,ho,ht⟩;obtain⟨u,a0⟩:=f5.o.UP fo j1 ho fun j e=>(ht j e).elim .inl fun e=>e.elim (fun h=>(hy.o j h).elim) .inr;have hA:=u.cells.2.1;obtain⟨z0,z1,z2,z3,z4,-⟩:=lB (j1.at hz.o f6.o)))
       have dT:gy (∃(K3 C3:Nat->Prop) (t3 o3 g3:Q4),nH fn (G (Q w)) (fun _ _=>False) W X A K3 C3 t3 o3 r g3 (Q6 J 0 0) mb [A] n [] H3 (N F) bA [(bA.V,bA.T)] [] false/\Q8 (G (Q w)) w fn):=gj (by have kf:bA=a1.jO (.delta (a1.V+1) os) (gY []) n:=fd.o;rw[kf];exact⟨_,_,_,_,_,u,dp.o.drew.trans a0⟩);clear hB f7 fo hC j1 ho ht u a0;go_wp2_with fail;go_meet;exact dT.o
     case rest=>
      obtain⟨K3,C3,t3,o3,g3,u,a0⟩:=hcut;have bX:=gj u;have f8:=gj a0;obtain⟨c0,-,-,-,-,d⟩:=u.cells;have fp:=gj (vA _ X H3 (N F) _ u.x);clear u a0 fg b9 b8 bx e4 bL HX er;go_wp2_with fail;refine fp.o.mono ?_;rintro e i4 ⟨lv,rfl,-,d5,b1⟩;have fr:=gj (bX.o.kQ b1 d5);have f9:=gj (f8.o.trans (b1.below bX.o.lt bX.o.kb));have fx:gy (∀f,bA.l4=N f->1<=f.1/\f.1<=14/\F.nQ<=100000/\(f.1=12↔1<=F.nQ)):=gj (by
       obtain⟨-,hdd,-,-,d6⟩:=dn.o;rcases d6 with ⟨-,a8,a9,b⟩|⟨-,-,a8,a9,b⟩
       .exact(b.1.up b.2.1).2.2.2.1
       .exact(b.1.up b.2.1).2.2.2.1)
      have d7:=gj (qz fr.o dn.o.1 fx.o);clear d5 b1 c0 d fp fx;go_wp2_with fail;refine d7.o.mono ?_;rintro e d8 ⟨rfl,b2⟩;have ba:=gj (fr.o.below b2);have b3:=gj (f9.o.tn b2);obtain⟨-,c1,-,-,-,d⟩:=ba.o.cells;have kl:=gr 0 ba.o.rg.row;have b4:=gm ba.o.rg.row;clear b2 d7;obtain⟨-,-,cs,i5,d6⟩:=dn.o;have d9:∀x y:Int,(x==y)=decide (x=y):=fun _ _=>rfl;have g1:=d9 (bA.V:Int) (a.V:Int);clear d9;rcases d6 with ⟨kk,a8,a9,b⟩|⟨kk,eb,a8,a9,b⟩
      .rw[bh (by omega)]at g1;have ak:gy (T1 n w W X taken i (k+1) d8):=gj ⟨A,_,C3,t3,_,r,_,mb,_,F,bA,a8,a9,s+2,B+1000,by have h:=ba.o;rw[dc.o]at h;exact h,b,by omega,by omega,by omega,by omega,b3.o⟩;clear b kk;go_wp2_with fail;go_roundw
       case rel=>exact⟨k+1,taken,i,by omega,by omega,by go_num,rfl,rfl,ak.o⟩
       case measure=>simp[intOf];omega
      .rw[aF (by omega)]at g1;by_cases h4:4<H2.il
       .have hl:=eb h4;rw[aw h4]at b;have ak:gy (T1 n w W X (taken+1) ((taken:Int)+1) (k+1) d8):=gj ⟨A,_,C3,t3,_,r,_,mb,_,F,bA,a8,a9,s+2,B+1000,by have h:=ba.o;rw[dc.o]at h;exact h,b,by omega,by omega,by omega,by omega,b3.o⟩;have h5:¬((taken:Int)+1-i<4):=by omega
        clear b kk eb;go_wp2_with fail;go_roundw
        case rel=>exact⟨k+1,taken+1,(taken:Int)+1,by omega,by omega,by go_num,by go_num,by go_num,ak.o⟩
        case measure=>simp[intOf];omega
       .rw[af h4]at b;have ak:gy (T1 n w W X (taken+1) i (k+1) d8):=gj ⟨A,_,C3,t3,_,r,_,mb,_,F,bA,a8,a9,s+2,B+1000,by have h:=ba.o;rw[dc.o]at h;exact h,b,by omega,by omega,by omega,by omega,b3.o⟩;clear b kk eb;go_wp2_with fail;go_roundw
        case rel=>exact⟨k+1,taken+1,i,by omega,by omega,by go_num,by go_num,rfl,ak.o⟩
        case measure=>simp[intOf];omega
  .have ga:(¬(k:Int)<(O l:Int))\/((k:Int)<(O l:Int)/\¬(k:Int)<300):=by omega
   obtain⟨A,K,C,t,o,r,g,mb,H,p,a,gq,gs,s,B,hw,j3,gt,gu,gv,gx,kd⟩:=HR.o;have hG:=gj (Uh s B 8 hw j3.1 j3.2.1 (by omega));have HB:=gj kd;clear eV hw j3 kd;rcases ga with h0|⟨h0,h9⟩
   all_goals
    go_wp2_with fail;refine hG.o.mono ?_;rintro e w2 ⟨rfl,K2,o2,g2,F,a2,-,-,bs⟩;have a4:=gj (HB.o.trans bs);clear bs;go_wp2;go_ret;exact⟨rfl,a4.o⟩
end Go.Proofs.YtkkfmkhbdoeglabGreatDoor
