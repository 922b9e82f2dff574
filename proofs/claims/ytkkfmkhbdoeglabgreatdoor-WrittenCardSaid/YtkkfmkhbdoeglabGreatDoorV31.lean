/- Lemmas of the proof. No condition. -/
import Derived.Test.YtkkfmkhbdoeglabGreatDoorV28
import Derived.Test.YtkkfmkhbdoeglabGreatDoorV30
set_option maxHeartbeats 8000000
set_option maxRecDepth 100000
namespace Go.Proofs.YtkkfmkhbdoeglabGreatDoor
open Go renaming World->Q0,Value->Q4,Calls->Rg
open Go.Ending renaming returned->Ra
open Go.IntKind renaming i64->Y,u64->Re
open Go.Obj renaming cells->Q1
open Go.RowKit renaming Below->Q8
open Go.Value renaming int->I,pointer->Q5,slice->Q6,string->Q7,tuple->Rc,bool->Rh,ownBlock->Rl
open Go.World renaming heap->Q,alloc->Ro
open List renaming length->O,toArray->Rm
open Option renaming none->J,some->N
open _root_.Array renaming size->G
open Go.Proofs.Tryz
open Go.RowKit
variable{F v:Nat}{M:Nat->Prop}{o' u:Q4}{s w1 w2 w3:Q0}
theorem sV.pass{w m:Q0}{A n R:Nat}{l:List Int}{t o r g:Q4}{a:iy}{x:iy×Option iV}{e:Ending}(i:jW w A n l t o r g a)(D:Q8 (G (Q w)) w w3)(h:sV w3 A n l t o r g x e m)(E:G (Q w)<=R)(F:w3.heap[R]?=N (Q1 #[Rh false,I Re 0,I Re 0,Q6 J 0 0,Q6 J 0 0] 65 (0,0))):
  ∃(b0:Bool) (m1 m2:Int) (s1:Option Addr) (n1 b:Nat) (s2:Option Addr) (n2 d:Nat),e=Ra (Rc #[.agg #[Rh b0,I Re m1,I Re m2,Q6 s1 n1 b,Q6 s2 n2 d],Rh x.2.isSome])/\m.heap[R]?=N (Q1 #[Rh false,I Re 0,I Re 0,Q6 J 0 0,Q6 J 0 0] 65 (0,0))/\
   gy ((oB m R (Rh b0) (I Re m1) (I Re m2) (Q6 s1 n1 b) (Q6 s2 n2 d)).heap[R]?=N (Q1 #[Rh b0,I Re m1,I Re m2,Q6 s1 n1 b,Q6 s2 n2 d] 65 (0,0))/\
    sV w A n l t o r g x (Ra (Rc #[.agg #[Rh b0,I Re m1,I Re m2,Q6 s1 n1 b,Q6 s2 n2 d],Rh x.2.isSome])) (oB m R (Rh b0) (I Re m1) (I Re m2) (Q6 s1 n1 b) (Q6 s2 n2 d))):=by
 obtain⟨v,rfl,y,B,M⟩:=h;obtain⟨b0,m1,m2,s1,n1,b,s2,n2,d,rfl⟩:=y.agg;have C:m.heap[R]?=N (Q1 #[Rh false,I Re 0,I Re 0,Q6 J 0 0,Q6 J 0 0] 65 (0,0)):=by obtain⟨o',g',-,U,-⟩:=B;exact U.at (i.Kq E) F
 have q:=yc m R (Rh b0) (I Re m1) (I Re m2) (Q6 s1 n1 b) (Q6 s2 n2 d);have s:=gm F;refine⟨b0,m1,m2,s1,n1,b,s2,n2,d,rfl,C,gj ⟨Am C _ _ _ _ _,_,rfl,y.Qj D.size q fun j u=>by rw[u];exact s,mr.done i D B q fun j u=>by rw[u];exact⟨E,s⟩,fun V=>?_⟩⟩;obtain⟨g',h1,S⟩:=M V;refine⟨g',h1.ext q (fun e=>by have:=gm i.row;omega) (fun j e u=>?_),fun j e=>(S j e).imp id fun e=>au D.size e⟩;have W:j=R:=u;rcases e with e|e|e|e
 .have:=i.lt j (.inl e);omega
 .have:=gS.iA i.out.own j e;omega
 .have:=i.lt j (.inr (.inl e));omega
 .rcases S j e with e|e
  .have:=i.lt j (.inr (.inr e));omega
  .omega
theorem E1(A n:Nat)(l:List Int)(t o r g:Q4)(a:iy)(frame:gw)(w:Q0)(h:jW w A n l t o r g a)(hf:a.mN)(hb:O frame<=1000000)(hd:∀f,a.l4=N f->1<=f.1):
  Rg prog 29 #[Q5 (N ⟨A,0,J⟩),Q7 ⟨Rm frame⟩] w (sV w A n l t o r g (a.taken frame)):=by
 have bx:Q8 (G (Q w)) w ((Ro w (Q1 #[Rh false,I Re 0,I Re 0,Q6 J 0 0,Q6 J 0 0] 65)).alloc (Q1 #[Rh false,I Re 0,I Re 0,Q6 J 0 0,Q6 J 0 0] 65)):=((Below.rf w).alloc gH _).alloc (by rw[aj];omega) _;have N1:=pA w (Q1 #[Rh false,I Re 0,I Re 0,Q6 J 0 0,Q6 J 0 0] 65) (Q1 #[Rh false,I Re 0,I Re 0,Q6 J 0 0,Q6 J 0 0] 65);have R1:=gP (Ro w (Q1 #[Rh false,I Re 0,I Re 0,Q6 J 0 0,Q6 J 0 0] 65)) (Q1 #[Rh false,I Re 0,I Re 0,Q6 J 0 0,Q6 J 0 0] 65) (gB w (Q1 #[Rh false,I Re 0,I Re 0,Q6 J 0 0,Q6 J 0 0] 65));have bb:=gj bx;have HH:=gj h;have HF:=gj hf;have ho:=hf.out;have b2:=gm h.row;have b3:(1000010:Nat)<=im:=by decide
 go_enter func29,ntmps29;go_upto_region 2 with fail;generalize (Ro w (Q1 #[Rh false,I Re 0,I Re 0,Q6 J 0 0,Q6 J 0 0] 65)).alloc (Q1 #[Rh false,I Re 0,I Re 0,Q6 J 0 0,Q6 J 0 0] 65)=w1 at *
 obtain⟨R,hR⟩:∃R,R=G (Q w):=⟨_,rfl⟩;rw[<-hR]at R1 N1⊢;have bc:gy (G (Q w)<=R):=gj (by omega);have H1:=gj (HH.o.below bb.o);have c3:=gr 3 H1.o.row;have bi:=gm H1.o.row;have bk:=gj R1;have bR:=gj N1;have M:gy (∀(a':iy) (W:Q0),mr w1 A n l t o r g a' W->a.taken frame=(a',J)->W.heap[R]?=N (Q1 #[Rh false,I Re 0,I Re 0,Q6 J 0 0,Q6 J 0 0] 65 (0,0))/\W.heap[R+1]?=N (Q1 #[Rh false,I Re 0,I Re 0,Q6 J 0 0,Q6 J 0 0] 65 (0,0))/\gy ((oB W R (Rh false) (I Re 0) (I Re 0) (Q6 J 0 0) (Q6 J 0 0)).heap[R]?=N (Q1 #[Rh false,I Re 0,I Re 0,Q6 J 0 0,Q6 J 0 0] 65 (0,0))/\sV w A n l t o r g (a.taken frame) (Ra (Rc #[.agg #[Rh false,I Re 0,I Re 0,Q6 J 0 0,Q6 J 0 0],Rh false])) (oB W R (Rh false) (I Re 0) (I Re 0) (Q6 J 0 0) (Q6 J 0 0)))):=gj (fun a' W j S=>by obtain⟨q1,q2,q3⟩:=sV.Pk HH.o bb.o j bc.o bk.o bR.o;refine⟨q1,q2,gj ⟨q3.out.1,?_⟩⟩;rw[S];exact⟨_,rfl,rfl,q3.out.2,fun h=>by cases h⟩);clear h hf bx R1 N1 hR;by_cases am:a.l4=J
 .rw[Dp am]at c3
  have D:gy (a.taken frame=match lQ frame with
   | .inr f=>(a.pW f.1,none)
   | .inl (k,body)=>if k=1 then a.delta body else if k=2 then(if body=[]then a.ki else a.pW 2,none)else if k=3 then(a.mW body,none)else if k=4 then a.piece body else(a.pW 6,none)):=gj (by unfold iy.taken;rw[af (by rw[am];decide)];rfl)
  have HU:=gj (CV frame w1 (by omega));clear am hd;unfold rP at HU;cases aa:lQ frame with
  | inr f=>
   obtain⟨k,p⟩:=f;rw[aa]at D HU;have hk:=Fm frame aa;have b4:((k:Int)==0)=false:=ar.2 (by omega);simp only at D HU;clear aa;go_wp2_with fail;refine HU.o.mono ?_;rintro e w2 ⟨rfl,ap⟩;have Z:=gB w2 (Q1 #[I Y (k:Int),I Y (p:Int)] 31);have C:=gj (ap.tn ((Below.rf w2).alloc gH (Q1 #[I Y (k:Int),I Y (p:Int)] 31)));clear ap c3 bi;go_upto_region 7 with fail;generalize Ro w2 (Q1 #[I Y (k:Int),I Y (p:Int)] 31)=w3 at *
   obtain⟨f0,f1,U⟩:=xc Z;go_wp2_with fail;refine(nu A n l t o r g a k p w3 (H1.o.below C.o) HF.o (by omega)).mono ?_;rintro e w4 ⟨rfl,j⟩;obtain⟨d,E,b⟩:=M.o _ _ (mr.first C.o j) D.o;obtain⟨y0,y1,y2,y3,y4,V⟩:=lB d;obtain⟨z0,z1,z2,z3,z4⟩:=oS d;obtain⟨q,s,u,x,B,-⟩:=lB b.out.1;obtain⟨n0,n1,n2,n3,n4,av⟩:=lB E;clear j d E f0 f1 U Z;unfold oB at q s u x B;go_wp2_with fail;exact ai (by simp[results,results29,go_sem,q,s,u,x,B]) rfl b.out.2
  | inl y=>
   obtain⟨F,body⟩:=y;rw[aa]at D HU;have b5:=xf aa;simp only at D HU;clear aa;have kf:∀m:Nat,m<256->(((F.toNat:Int))==(m:Int))=decide (F=UInt8.ofNat m):=fun m hm=>by
    have h2:(UInt8.ofNat m).toNat=m:=by rw[fe];omega
    by_cases h:F=UInt8.ofNat m
    .rw[bh h,h,h2];exact eW _
    .rw[aF h];refine ar.2 fun e=>h ?_;rw[<-dO,h2];omega
   have e1:((F.toNat:Int)==1)=decide (F=1):=kf 1 (by omega);have e2:((F.toNat:Int)==2)=decide (F=2):=kf 2 (by omega);have e3:((F.toNat:Int)==3)=decide (F=3):=kf 3 (by omega);have e4:((F.toNat:Int)==4)=decide (F=4):=kf 4 (by omega);have e5:((body==([]:gw)):Bool)=decide (body=[]):=by cases body<;>rfl
   clear kf;obtain⟨K,hK⟩:∃K:Int,K=F.toNat:=⟨_,rfl⟩;rw[<-hK]at e1 e2 e3 e4 HU;clear hK;go_wp2_with fail;refine HU.o.mono ?_;rintro e w2 ⟨rfl,ap⟩;have Z:=gB w2 (Q1 #[I Y 0,I Y 0] 31);have C:=gj (ap.tn ((Below.rf w2).alloc gH (Q1 #[I Y 0,I Y 0] 31)));clear ap c3 bi HU;go_upto_region 7 with fail;generalize Ro w2 (Q1 #[I Y 0,I Y 0] 31)=w3 at *
   obtain⟨f0,f1,U⟩:=xc Z;have bz:=gj (gC C.o (gm bk.o) bk.o);have bA:=gj (bb.o.tn C.o);have H3:=gj (H1.o.below C.o);by_cases h1:F=1
   .rw[bh h1]at e1;have i:gy (a.taken frame=a.delta body):=gj (by rw[D.o,aw h1]);clear h1 e2 e3 e4 e5 D;go_wp2_with fail;refine(BH A n l t o r g a body w3 H3.o HF.o (by omega)).mono ?_;intro e w4 S;obtain⟨b0,m1,m2,s1,n1,q1,s2,n2,q2,rfl,X,b⟩:=S.pass HH.o bA.o bc.o bz.o;rw[<-i.o]at b⊢;obtain⟨q,s,u,x,B,-⟩:=lB b.out.1;obtain⟨y0,y1,y2,y3,y4,bN⟩:=lB X;obtain⟨z0,z1,z2,z3,z4⟩:=oS X;clear S X f0 f1 U Z;unfold oB at q s u x B b;generalize (a.taken frame).2.isSome=bs at *
    go_wp2_with fail;exact ai (by simp[results,results29,go_sem,q,s,u,x,B]) rfl b.out.2
   .rw[aF h1]at e1;have i:=D.o;rw[af h1]at i;clear D h1;by_cases h2:F=2
    .rw[bh h2]at e2;rw[aw h2]at i;clear h2 e3 e4;by_cases ag:body=[]
     .rw[bh ag]at e5;rw[aw ag]at i;have D:=gj i;clear i ag;go_wp2_with fail;refine(nL A n l t o r g a _ (H1.o.below (by exact C.o)) ho (by have:=HF.o.v;omega)).mono ?_;intro e w4 S;obtain⟨rfl,j⟩:=S.go;obtain⟨d,E,b⟩:=M.o _ _ (mr.first (by exact C.o) j) D.o;obtain⟨y0,y1,y2,y3,y4,V⟩:=lB d;obtain⟨z0,z1,z2,z3,z4⟩:=oS d;obtain⟨q,s,u,x,B,-⟩:=lB b.out.1;obtain⟨n0,n1,n2,n3,n4,av⟩:=lB E;clear j S d E f0 f1 U Z;unfold oB at q s u x B;go_wp2_with fail;exact ai (by simp[results,results29,go_sem,q,s,u,x,B]) rfl b.out.2
     .rw[aF ag]at e5;rw[af ag]at i;have D:=gj i;clear i ag;go_wp2_with fail;refine(nu A n l t o r g a 2 0 _ (H1.o.below (by exact C.o)) HF.o (by omega)).mono ?_;rintro e w4 ⟨rfl,j⟩;obtain⟨d,E,b⟩:=M.o _ _ (mr.first (by exact C.o) j) D.o;obtain⟨y0,y1,y2,y3,y4,V⟩:=lB d;obtain⟨z0,z1,z2,z3,z4⟩:=oS d;obtain⟨q,s,u,x,B,-⟩:=lB b.out.1;obtain⟨n0,n1,n2,n3,n4,av⟩:=lB E;clear j d E f0 f1 U Z;unfold oB at q s u x B;go_wp2_with fail;exact ai (by simp[results,results29,go_sem,q,s,u,x,B]) rfl b.out.2
    .rw[aF h2]at e2;rw[af h2]at i;clear h2 e5;by_cases h3:F=3
     .rw[bh h3]at e3;rw[aw h3]at i;have D:=gj i;clear i h3 e4;go_wp2_with fail;refine(CP A n l t o r g a body _ (H1.o.below (by exact C.o)) HF.o (by omega)).mono ?_;rintro e w4 ⟨rfl,j⟩;obtain⟨d,E,b⟩:=M.o _ _ (mr.first (by exact C.o) j) D.o;obtain⟨y0,y1,y2,y3,y4,V⟩:=lB d;obtain⟨z0,z1,z2,z3,z4⟩:=oS d;obtain⟨q,s,u,x,B,-⟩:=lB b.out.1;obtain⟨n0,n1,n2,n3,n4,av⟩:=lB E;clear j d E f0 f1 U Z;unfold oB at q s u x B;go_wp2_with fail;exact ai (by simp[results,results29,go_sem,q,s,u,x,B]) rfl b.out.2
     .rw[aF h3]at e3;rw[af h3]at i;clear h3;by_cases h4:F=4
      .rw[bh h4]at e4;rw[aw h4]at i;have i:=gj i;clear h4;go_wp2_with fail;refine(EZ A n l t o r g a body w3 H3.o HF.o (by omega)).mono ?_;intro e w4 S;obtain⟨b0,m1,m2,s1,n1,q1,s2,n2,q2,rfl,X,b⟩:=S.pass HH.o bA.o bc.o bz.o;rw[<-i.o]at b⊢;obtain⟨q,s,u,x,B,-⟩:=lB b.out.1;obtain⟨y0,y1,y2,y3,y4,bN⟩:=lB X;obtain⟨z0,z1,z2,z3,z4⟩:=oS X;clear S X f0 f1 U Z;unfold oB at q s u x B b;generalize (a.taken frame).2.isSome=bs at *
       go_wp2_with fail;exact ai (by simp[results,results29,go_sem,q,s,u,x,B]) rfl b.out.2
      .rw[aF h4]at e4;rw[af h4]at i;have D:=gj i;clear i h4;go_wp2_with fail;refine(nu A n l t o r g a 6 0 _ (H1.o.below (by exact C.o)) HF.o (by omega)).mono ?_;rintro e w4 ⟨rfl,j⟩;obtain⟨d,E,b⟩:=M.o _ _ (mr.first (by exact C.o) j) D.o;obtain⟨y0,y1,y2,y3,y4,V⟩:=lB d;obtain⟨z0,z1,z2,z3,z4⟩:=oS d;obtain⟨q,s,u,x,B,-⟩:=lB b.out.1;obtain⟨n0,n1,n2,n3,n4,av⟩:=lB E;clear j d E f0 f1 U Z;unfold oB at q s u x B;go_wp2_with fail;exact ai (by simp[results,results29,go_sem,q,s,u,x,B]) rfl b.out.2
 .obtain⟨f,a7⟩:=df.1 am;rw[yw a7]at c3;have b6:((f.1:Int)==0)=false:=ar.2 (by have:=hd f a7;omega);have D:gy (a.taken frame=(a.jM 13,J)):=gj (by unfold iy.taken;rw[aw (by rw[a7];rfl)]);clear am a7 hd;go_wp2_with fail;refine(rp A n l t o r g a 13 w1 H1.o ho (by omega)).mono ?_;intro e w4 S;obtain⟨rfl,j⟩:=S.go;obtain⟨d,E,b⟩:=M.o _ _ j D.o;obtain⟨y0,y1,y2,y3,y4,V⟩:=lB d;obtain⟨z0,z1,z2,z3,z4⟩:=oS d;obtain⟨q,s,u,x,B,-⟩:=lB b.out.1;obtain⟨n0,n1,n2,n3,n4,av⟩:=lB E;clear j S d c3 bi E;unfold oB at q s u x B;go_wp2_with fail;exact ai (by simp[results,results29,go_sem,q,s,u,x,B]) rfl b.out.2
open Go.Shelf
section
variable {w:Q0} {Z:Nat->Obj->Prop} {b W X A:Nat} {K C:Nat->Prop} {t o r g ev:Q4} {mb:Nat} {Ms:List Nat} {n:Nat} {l:List Int} {H:gA} {P:Option iM} {p:iM} {a:iy} {maybe:List (Nat×List E)} {ever:List E} {armed:Bool}
end
structure yo where
 kind:Int
 A:Int
 B:Int
 C:Int
 S:gw
 iS:List kv
def zj(x:Int):Prop:=-9223372036854775808<=x/\x<=9223372036854775807
structure yo.mN(q:yo):Prop where
 kind:zj q.kind
 A:zj q.A
 B:zj q.B
 C:zj q.C
 S:O q.S<=140737488354000
 iS:uJ q.iS
 len:O q.iS<=2932031007402
def yo.val(q:yo)(b:Q4):Q4:=.agg #[I Y q.kind,I Y q.A,I Y q.B,I Y q.C,Q7 ⟨Rm q.S⟩,b]
section
variable {w:Q0} {Z:Nat->Obj->Prop} {b W X A:Nat} {K C:Nat->Prop} {t o r g ev:Q4} {mb:Nat} {Ms:List Nat} {n:Nat} {l:List Int} {H:gA} {P:Option iM} {p:iM} {a:iy} {maybe:List (Nat×List E)} {ever:List E} {armed:Bool}
end
def P9(w:Q0)(b:Nat)(Z:Nat->Obj->Prop)(W X n:Nat)(l:List Int)(s:Nat):Prop:=∃A K C t o r g ev mb Ms H P a maybe ever armed B,nH w b Z W X A K C t o r g ev mb Ms n l H P a maybe ever armed/\uG n l s B H P a maybe ever armed
theorem Az.at{w:Q0}{Z:Nat->Obj->Prop}{b W X n s:Nat}{l:List Int}(h:Az w b Z W X n l s):P9 w b Z W X n l s:=by obtain⟨A,K,C,t,o,r,g,ev,mb,Ms,H,p,a,maybe,ever,armed,B,h1,d⟩:=h;exact⟨A,K,C,t,o,r,g,ev,mb,Ms,H,N p,a,maybe,ever,armed,B,h1,d⟩
theorem wy(v n:Nat)(l:List Int)(tv b:Q4)(T:List E)(w:Q0)(q:iD w tv T)(r:gE w b 1 3 [I Y (gY l 0),I Y (gY l 1),I Y (gY l 2)])(i:∀j,(Rl tv=N j\/Rl b=N j)->j<G (Q w))(x:v<18446744073709551615):
  Rg prog 66 #[I Re (v:Nat),tv,I Y (n:Nat),b] w fun e w'=>∃A o,e=Ra (Q5 (N ⟨A,0,J⟩))/\G (Q w)<=A/\jW w' A n l tv o b (Q6 J 0 0) (lE v T)/\(∀j,Rl o=N j->G (Q w)<=j)/\Q8 (G (Q w)) w w':=by
 have d:Q8 (G (Q w)) w (Ro w (Q1 #[I Re (v:Nat),tv,Q6 J 0 0,I Y 0,I Y 0,I Y (n:Nat),b,Rh false,I Re 0,I Y 0,Q6 J 0 0] 53)):=(Below.rf w).alloc gH _;have s:=gB w (Q1 #[I Re (v:Nat),tv,Q6 J 0 0,I Y 0,I Y 0,I Y (n:Nat),b,Rh false,I Re 0,I Y 0,Q6 J 0 0] 53)
 have h1:jW (Ro w (Q1 #[I Re (v:Nat),tv,Q6 J 0 0,I Y 0,I Y 0,I Y (n:Nat),b,Rh false,I Re 0,I Y 0,Q6 J 0 0] 53)) (G (Q w)) n l tv (Q6 J 0 0) b (Q6 J 0 0) ⟨v,T,[],J,J⟩:=
  ⟨s,gE.below q d,nM.nil _ _,gE.below r d,gE.nil _ _ _ _,fun j e=>by simp[Value.ownBlock]at e,⟨fun e=>dt _ (i _ (.inl e)),fun e=>dt _ (i _ (.inr e)),by simp[Value.ownBlock],by simp[Value.ownBlock]⟩,fun j e=>ae (by
    rcases e with e|e|e
    .exact i j (.inl e)
    .exact i j (.inr e)
    .simp[Value.ownBlock]at e) d.size⟩
 obtain⟨-,y,B,rfl,-,-⟩:=q;obtain⟨-,C,rc,rfl,-,-⟩:=r;have H1:=gj h1;have m:=gj d;clear h1 d s;go_enter func66,ntmps66;go_wp2_with fail;refine(nL (G (Q w)) n l _ _ _ _ ⟨v,T,[],J,J⟩ _ H1.o (by simp) (by show v<_;omega)).mono ?_;rintro e w2 ⟨rfl,o',g1,g2,u,g4⟩;go_wp2;go_ret;refine⟨G (Q w),o',rfl,aq _,g1,fun j e=>(g4 j e).elim (fun e=>by simp[Value.ownBlock]at e) fun e=>by have:=m.o.size;omega,m.o.trans (u.below m.o.size fun j D e=>?_)⟩;rcases e with e|e
 .omega
 .simp[Value.ownBlock]at e
section
variable {w w':Q0} {Z:Nat->Obj->Prop} {b W X A:Nat} {K C:Nat->Prop} {t o r g ev:Q4} {mb:Nat} {Ms:List Nat} {n:Nat} {l:List Int} {H:gA} {P:Option iM} {a:iy} {maybe:List (Nat×List E)} {ever:List E} {armed:Bool}
theorem nH.mo{u d:Nat}{T:List E}{U:Q4}(h:nH w b Z W X A K C t o r g ev mb Ms n l H P a maybe ever armed)(y:gR (fun j=>j=W) w w')(q:jW w' u n l U o' r (Q6 J 0 0) (lE v T))(hA:G (Q w)<=u)(V:∀j,Rl o'=N j->G (Q w)<=j)(S:∀j,Rl U=N j->C j)(aa:w'.heap[W]?=N (Q1 #[Q5 (N ⟨X,0,J⟩),Q5 (N ⟨u,0,J⟩),Q6 (N ⟨d,0,J⟩) 1 1,ev,Rh armed] 58 (0,0)))(F:w'.heap[d]?=N (Q1 #[Q5 (N ⟨u,0,J⟩)] 55 (0,0)))(ak:G (Q w)<=d):
  nH w' b Z W X u (Kn K w w') (fun j=>C j\/j=d) U o' r (Q6 J 0 0) ev d [u] n l H P (lE v T) [(v,T)] ever armed/\Q8 b w w':=by
 obtain⟨n1,n4,n5⟩:=h.ne;have R:=h.x.lt;have am:=h.lt;obtain⟨p1,p2,-⟩:=nh v T;have aE:=gm F;refine⟨⟨aa,F,rfl,by simp,fun i M m B D=>?_,q,h.x.grow y fun k e=>by rw[e];exact⟨h.kW.1,au h.b2 h.kW.2⟩,h.evo.frame y.size fun j e s=>y.block j s (n5 j e).1,h.evT.frame fun j e s=>y.block j s (n5 j e).1,⟨.inl h.kW.1,h.kW.2⟩,⟨.inr ⟨hA,gm q.row⟩,by omega⟩,fun j e=>.inl (S j e),fun j e=>.inl (h.cr j e),.inr rfl,fun j e=>by simp[Value.ownBlock]at e,fun j e=>⟨.inr ⟨V j e,gS.iA q.out.own j e⟩,by have:=V j e;omega⟩,fun j e=>.inl (h.kev j e),fun j s=>?_,fun k hk=>.inl (h.kb k hk),h.b2,fun j x hz=>⟨.inl (h.z j x hz).1,y.at (fun e=>(h.c j (h.z j x hz).1).2.2.1 e) (h.z j x hz).2⟩⟩,y.below am fun k hk e=>by have:=h.kW.2;have D:k=W:=e;omega⟩
 .match i,B,D with
  | 0,B,D=>simp only[aY,dz]at B D;subst B D;have:=wH.self q (C:=fun j=>C j\/j=d) fun j e=>.inl (S j e);rw[p1,p2]at this;exact⟨this,fun _=>by rw[p1,p2]⟩
  | i+1,B,D=>simp at B
 .rcases s with s|rfl
  .obtain⟨c1,c2,c3,c4,c5⟩:=h.c j s;have:=R j c1;exact⟨.inl c1,fun e=>by omega,c3,fun e=>by have:=V j e;omega,c5⟩
  .refine⟨.inr ⟨ak,aE⟩,fun e=>?_,fun e=>?_,fun e=>?_,fun e=>?_⟩
   .rw[e,q.row]at F;simp at F
   .have:=R W h.kW.1;omega
   .exact q.out.typ.ne F (by decide) e
   .have:=R _ (h.kev _ e);omega
theorem nH.aside(h:nH w b Z W X A K C t o r g ev mb Ms n l H P a maybe ever armed)(d:gR (fun j=>j=F) w w')(hF:K F)(u:b<=F)(y:F≠A/\F≠W/\¬C F/\Rl o≠N F/\Rl g≠N F/\Rl ev≠N F):nH w' b Z W X A K C t o r g ev mb Ms n l H P a maybe ever armed/\Q8 b w w':=by
 obtain⟨n1,n2,q,B,D,n6⟩:=y;refine⟨h.oK d (fun j m e=>q (by have i:j=F:=e;rw[<-i];exact m)) (d.at (fun e=>n2 (Eq.symm e)) h.row) (h.rg.ext d (fun e=>n1 (Eq.symm e)) fun j e E=>?_) rfl rfl (h.x.other d (fun j e=>by rw[e];exact hF) fun j e=>by rw[e];exact au h.b2 u) (fun _ e=>e) (h.evo.frame d.size fun j e m=>d.block j m fun i=>n6 (by rw[e,i])) (h.evT.frame fun j e m=>d.block j m fun i=>n6 (by rw[e,i])) (fun _=>.inl) (fun _=>.inl) fun _=>.inl,d.below h.lt fun k hk e=>by have i:k=F:=e;omega⟩;have s:j=F:=E;subst s;rcases e with e|e|e|e
 .exact q (h.ct j e)
 .exact B e
 .exact q (h.cr j e)
 .exact D e
theorem nH.rU(h:nH w b Z W X A K C t o r g ev mb Ms n l H P a maybe ever armed)(hF:G (Q w)<=F):b<=F/\F≠A/\F≠W/\¬C F/\Rl o≠N F/\Rl g≠N F/\Rl ev≠N F:=by have d:=h.x.lt;exact⟨au h.lt hF,fun e=>by have:=d A h.kA.1;omega,fun e=>by have:=d W h.kW.1;omega,fun e=>by have:=d F (h.c F e).1;omega,fun e=>by have:=d F (h.ko F e).1;omega,fun e=>by have:=d F (h.cg F e).1;omega,fun e=>by have:=d F (h.kev F e);omega⟩
end
theorem EL(v:Q4)(l:List Int)(w:Q0)(hr:gE w v 1 (O l) (l.map fun i=>I Y i))(_hl:O l<=im):
  Rg prog 12 #[v] w fun e w'=>∃Z,e=Ra Z/\gE w' Z 1 3 [I Y (gY l 0),I Y (gY l 1),I Y (gY l 2)]/\Q8 (G (Q w)) w w'/\∀j,Rl Z=N j->G (Q w)<=j/\j<G (Q w'):=by
 obtain⟨-,a,cap,rfl,av,hx⟩:=hr;have HX:=gj hx;have hm:im<=1000000000000000000:=by decide
 clear hx;go_enter func12,ntmps12;go_wp2_with fail;have S:Q8 (G (Q w)) w (Ro w (Q1 #[I Y 40,I Y 40,I Y 40] 3)):=(gJ w).alloc gH _;have R0:=gj (gB w (Q1 #[I Y 40,I Y 40,I Y 40] 3));have ak:=gj S;clear S;go_loopw [4] (fun i wr=>∃k:Nat,k<=O l/\k<=3/\i=I Y (k:Int)/\wr.heap[G (Q w)]?=N (Q1 #[I Y (rk l k 0),I Y (rk l k 1),I Y (rk l k 2)] 3 (0,0))/\Q8 (G (Q w)) w wr) (fun i _=>O l-(intOf i).toNat)
 case atStart=>exact⟨0,aJ _,by omega,rfl,R0.o,ak.o⟩
 case round=>
  obtain⟨k,hk,E,rfl,d,y⟩:=hrel;have HR:=gj d;have D:=gj y;by_cases U:k<O l/\k<3
  .obtain⟨V,h3⟩:=U;have a1:(k:Int)<O l:=by omega
   have a6:(k:Int)<3:=by omega
   obtain⟨b,o,rfl,c0⟩:=HX.o k (by rw[aB];exact V);rw[eA]at c0;have d0:=(y.cell (p:=⟨b,o+k,J⟩) (gK c0)).trans c0;have a2:b≠G (Q w):=fun e=>by have:b<G (Q w):=gK c0;omega
   have m:=gj (fun j=>OT l k j V);generalize l[k]=x at *
   have a3:=gm d;have F:x<0\/40<x\/(¬x<0/\¬ 40<x):=by omega
   obtain rfl|rfl|rfl:k=0\/k=1\/k=2:=by omega
   .simp only[cL]at d0;have e0:=gr 0 d;have z0:=gD 0 d;have M:=fun v:Q4=>gj (QN _ _ 0 v d);have s:=fun v u:Q4=>gj (QN _ _ 0 u (QN _ _ 0 v d));have B:=fun v:Q4=>gj (D.o.setCell (p:=⟨G (Q w),0,J⟩) gH v);have q:=fun v u:Q4=>gj ((D.o.setCell (p:=⟨G (Q w),0,J⟩) gH v).setCell (p:=⟨G (Q w),0,J⟩) gH u);clear d y;rcases F with C|C|⟨C,W⟩
    .have r:gy (min (max x 0) 40=0):=gj (by omega);go_wp2;go_roundw
     case rel=>exact⟨0+1,by omega,by omega,rfl,by rw[m.o 0,m.o 1,m.o 2,r.o];exact(s _ _).out,(q _ _).out⟩
     case measure=>simp[intOf];omega
    .have r:gy (min (max x 0) 40=40):=gj (by omega);have X:¬x<0:=by omega
     go_wp2;go_roundw
     case rel=>exact⟨0+1,by omega,by omega,rfl,by rw[m.o 0,m.o 1,m.o 2,r.o];exact(s _ _).out,(q _ _).out⟩
     case measure=>simp[intOf];omega
    .have r:gy (min (max x 0) 40=x):=gj (by omega);go_wp2;go_roundw
     case rel=>exact⟨0+1,by omega,by omega,rfl,by rw[m.o 0,m.o 1,m.o 2,r.o];exact(M _).out,(B _).out⟩
     case measure=>simp[intOf];omega
   .have e0:=gr 1 d;have z0:=gD 1 d;have M:=fun v:Q4=>gj (QN _ _ 1 v d);have s:=fun v u:Q4=>gj (QN _ _ 1 u (QN _ _ 1 v d));have B:=fun v:Q4=>gj (D.o.setCell (p:=⟨G (Q w),1,J⟩) gH v);have q:=fun v u:Q4=>gj ((D.o.setCell (p:=⟨G (Q w),1,J⟩) gH v).setCell (p:=⟨G (Q w),1,J⟩) gH u);clear d y;rcases F with C|C|⟨C,W⟩
    .have r:gy (min (max x 0) 40=0):=gj (by omega);go_wp2;go_roundw
     case rel=>exact⟨1+1,by omega,by omega,rfl,by rw[m.o 0,m.o 1,m.o 2,r.o];exact(s _ _).out,(q _ _).out⟩
     case measure=>simp[intOf];omega
    .have r:gy (min (max x 0) 40=40):=gj (by omega);have X:¬x<0:=by omega
     go_wp2;go_roundw
     case rel=>exact⟨1+1,by omega,by omega,rfl,by rw[m.o 0,m.o 1,m.o 2,r.o];exact(s _ _).out,(q _ _).out⟩
     case measure=>simp[intOf];omega
    .have r:gy (min (max x 0) 40=x):=gj (by omega);go_wp2;go_roundw
     case rel=>exact⟨1+1,by omega,by omega,rfl,by rw[m.o 0,m.o 1,m.o 2,r.o];exact(M _).out,(B _).out⟩
     case measure=>simp[intOf];omega
   .have e0:=gr 2 d;have z0:=gD 2 d;have M:=fun v:Q4=>gj (QN _ _ 2 v d);have s:=fun v u:Q4=>gj (QN _ _ 2 u (QN _ _ 2 v d));have B:=fun v:Q4=>gj (D.o.setCell (p:=⟨G (Q w),2,J⟩) gH v);have q:=fun v u:Q4=>gj ((D.o.setCell (p:=⟨G (Q w),2,J⟩) gH v).setCell (p:=⟨G (Q w),2,J⟩) gH u);clear d y;rcases F with C|C|⟨C,W⟩
    .have r:gy (min (max x 0) 40=0):=gj (by omega);go_wp2;go_roundw
     case rel=>exact⟨2+1,by omega,by omega,rfl,by rw[m.o 0,m.o 1,m.o 2,r.o];exact(s _ _).out,(q _ _).out⟩
     case measure=>simp[intOf];omega
    .have r:gy (min (max x 0) 40=40):=gj (by omega);have X:¬x<0:=by omega
     go_wp2;go_roundw
     case rel=>exact⟨2+1,by omega,by omega,rfl,by rw[m.o 0,m.o 1,m.o 2,r.o];exact(s _ _).out,(q _ _).out⟩
     case measure=>simp[intOf];omega
    .have r:gy (min (max x 0) 40=x):=gj (by omega);go_wp2;go_roundw
     case rel=>exact⟨2+1,by omega,by omega,rfl,by rw[m.o 0,m.o 1,m.o 2,r.o];exact(M _).out,(B _).out⟩
     case measure=>simp[intOf];omega
  .have aa:(¬(k:Int)<O l)\/((k:Int)<O l/\¬(k:Int)<3):=by omega
   have R:k=3\/k=O l:=by omega
   have HV:gy (gE wr (Q6 (N ⟨G (Q w),0,J⟩) 3 3) 1 3 [I Y (gY l 0),I Y (gY l 1),I Y (gY l 2)]):=gj (by
    rw[<-Jw l k 0 R (by omega) E,<-Jw l k 1 R (by omega) E,<-Jw l k 2 R (by omega) E];refine⟨rfl,_,3,rfl,aq _,fun i hi=>⟨_,0,rfl,?_⟩⟩;have al:i<3:=hi
    match i,al with
    | 0,_=>exact gr 0 d
    | 1,_=>exact gr 1 d
    | 2,_=>exact gr 2 d)
   have am:=gj (gm d);clear U d y;rcases aa with h0|⟨h0,h9⟩
   all_goals
    go_wp2;go_ret;exact⟨_,rfl,HV.o,D.o,fun j e=>by have:=am.o;simp[Value.ownBlock]at e;omega⟩
theorem nH.begun{w:Q0}{Z:Nat->Obj->Prop}{X A n:Nat}{l:List Int}{H:gA}{p:iM}{o:Q4}(hZ:∀j x,Z j x->w.heap[j]?=N x)(U:gZ w)(ap:kM w)(h1:lM w1 M X H (N p))(hM:∀k,M k->G (Q w)<=k)(B:Q8 (G (Q w)) w w1)(V:Q8 (G (Q w1)) w1 w2)(av:∀j,Rl u=N j->G (Q w1)<=j)(d:jW w3 A n l (Q6 J 0 0) o u (Q6 J 0 0) (lE 0 []))(hA:G (Q w2)<=A)(ho:∀j,Rl o=N j->G (Q w2)<=j)(aa:Q8 (G (Q w2)) w2 w3){W mb:Nat}(E:Q8 (G (Q w3)) w3 s)(hW:G (Q w3)<=W)(bc:G (Q w3)<=mb)(q:s.heap[W]?=N (Q1 #[Q5 (N ⟨X,0,J⟩),Q5 (N ⟨A,0,J⟩),Q6 (N ⟨mb,0,J⟩) 1 1,Q6 J 0 0,Rh false] 58 (0,0)))(hr:s.heap[mb]?=N (Q1 #[Q5 (N ⟨A,0,J⟩)] 55 (0,0)))(aE:kx n l 0 480 H (N p) (lE 0 []) [(0,[])] [] false)(al:H.dp.iF=[]):
  Az s (G (Q w)) Z W X n l 0:=by
 have s1:=B.size;have s2:=V.size;have s3:=aa.size;have s4:=E.size;have lW:=gm q;have a0:=gm hr;have lA:=gm d.row;have lz:∀j x,Z j x->j<G (Q w):=fun j x r=>gm (hZ j x r);have lo:∀j,Rl o=N j->j<G (Q w3):=fun j e=>gS.iA d.out.own j e;have lr:∀j,Rl u=N j->j<G (Q w3):=fun j e=>d.lt j (.inr (.inl e));obtain⟨p1,p2,-⟩:=nh 0 [];have hx:=pY.new h1 hM B U ap;have F:Q8 (G (Q w1)) w1 s:=(V.trans (aa.mono s2)).trans (E.mono (by omega));have a4:=hx.grow (D:=fun _=>False) (gR.gO F) fun k e=>e.elim;have R:=d.below E;have a5:W≠mb:=fun e=>by rw[e,hr]at q;simp at q
 refine⟨A,Kn (fun k=>k<G (Q w)) w1 s,fun j=>j=mb\/Rl u=N j\/∃x,Z j x,Q6 J 0 0,o,u,Q6 J 0 0,Q6 J 0 0,mb,[A],H,p,lE 0 [],[(0,[])],[],false,480,⟨q,hr,rfl,by simp,fun i M' m y b=>?_,R,a4,gS.nil _ _ _,gQ.nil _ _,⟨.inr ⟨by omega,lW⟩,by omega⟩,⟨.inr ⟨by omega,by omega⟩,by omega⟩,fun j e=>by simp[Value.ownBlock]at e,fun j e=>.inr (.inl e),.inl rfl,fun j e=>by simp[Value.ownBlock]at e,fun j e=>⟨.inr ⟨by have:=ho j e;omega,by have:=lo j e;omega⟩,by have:=ho j e;omega⟩,fun j e=>by simp[Value.ownBlock]at e,fun j hj=>?_,fun k hk=>.inl hk,U.two,fun j x r=>⟨.inr (.inr ⟨x,r⟩),?_⟩⟩,⟨aE,fun _ _=>al,by simp,by simp⟩⟩
 .match i,y,b with
  | 0,y,b=>
   simp only[aY,dz]at y b;subst y b;have:=wH.self R (C:=fun j=>j=mb\/Rl u=N j\/∃x,Z j x) fun j e=>by simp[Value.ownBlock]at e
   rw[p1,p2]at this;exact⟨this,fun _=>by rw[p1,p2]⟩
  | i+1,y,b=>simp at y
 .rcases hj with rfl|e|⟨x,r⟩
  .exact⟨.inr ⟨by omega,a0⟩,by omega,fun e=>a5 (Eq.symm e),fun e=>by have:=lo _ e;omega,by simp[Value.ownBlock]⟩
  .have S:=av j e;have k2:=lr j e;exact⟨.inr ⟨by omega,by omega⟩,fun b=>d.sepA.2.1 (by rw[e,b]),by omega,fun b=>(d.sep j b).2.1 e,by simp[Value.ownBlock]⟩
  .have S:=lz j x r;exact⟨.inl S,by omega,by omega,fun b=>by have:=ho j b;omega,by simp[Value.ownBlock]⟩
 .have S:=lz j x r;have a6:=(B.block j S).trans (hZ j x r);exact(F.block j (by omega)).trans a6
def Ui(b:Nat)(Z:Nat->Obj->Prop)(W X A:Nat)(C:Nat->Prop)(t r ev:Q4)(mb:Nat)(Ms:List Nat)(n:Nat)(l:List Int)(H:gA)(maybe:List (Nat×List E))(ever:List E)(armed:Bool)(maybe2:List (Nat×List E))(ever2:List E)(armed2:Bool)(s B:Nat)(w wr:Q0):Prop:=∃K o g p' a',nH wr b Z W X A K C t o r g ev mb Ms n l H (N p') a' maybe ever armed/\uG n l s B H (N p') a' maybe2 ever2 armed2/\Q8 b w wr
section
variable {w:Q0} {Z:Nat->Obj->Prop} {b W X A:Nat} {K C:Nat->Prop} {t o r g ev:Q4} {mb:Nat} {Ms:List Nat} {n:Nat} {l:List Int} {H:gA} {P:Option iM} {p:iM} {a:iy} {maybe:List (Nat×List E)} {ever:List E} {armed:Bool} {maybe2:List (Nat×List E)} {ever2:List E} {armed2:Bool}
theorem Uh(s B d:Nat)(h:nH w b Z W X A K C t o r g ev mb Ms n l H (N p) a maybe ever armed)(m:uG n l s B H (N p) a maybe2 ever2 armed2)(hd:H.dp.ir=false)(hN:d<=100):
  Rg prog 33 #[Q5 (N ⟨W,0,J⟩),I Y (d:Int)] w fun e w'=>e=Ra (Rh true)/\Ui b Z W X A C t r ev mb Ms n l H maybe ever armed maybe2 ever2 armed2 s B w w':=by
 have u:gy (Ui b Z W X A C t r ev mb Ms n l H maybe ever armed maybe2 ever2 armed2 s B w w):=gj ⟨K,o,g,p,a,h,m,kz⟩;clear h m;go_enter func33,ntmps33;go_wp2_with fail;go_loopw [5] (fun i wr=>∃k:Nat,k<=d/\i=I Y (k:Int)/\Ui b Z W X A C t r ev mb Ms n l H maybe ever armed maybe2 ever2 armed2 s B w wr) (fun i _=>d-(intOf i).toNat)
 case atStart=>exact⟨0,aJ _,rfl,u.o⟩
 case round=>
  obtain⟨k,hk,rfl,hrel⟩:=hrel;clear u;by_cases a5:k<d
  .have aa:(k:Int)<(d:Int):=by omega
   obtain⟨K',o',g',p',a',hw,m,hb⟩:=hrel;obtain⟨rfl,u2,u3,-⟩:=m.up hd;obtain⟨c0,-,-,-,-,j⟩:=hw.cells;have y:=gj hw;have D:=gj m;have HB:=gj hb;have HF:=gj u3;clear hw m hb u2 u3;obtain⟨sl,E⟩:∃sl,sl=(p'.a.next.2.getD []):=⟨_,rfl⟩;obtain⟨bl,F⟩:∃bl,bl=p'.a.next.2.isSome:=⟨_,rfl⟩;have M:gy (Km p'.a.next.2=Rc #[Q7 ⟨Rm sl⟩,Rh bl]):=gj (by rw[E,F];rfl);clear E F;go_wp2_with fail;refine(Mm K' X H p' wr y.o.x HF.o).mono ?_;rintro e w2 ⟨rfl,R,q⟩;rw[M.o];have H2:=gj (y.o.kQ q R);have aE:=gj (HB.o.trans (q.below (au y.o.kW.2 (Nat.le_of_lt j)) y.o.kb));clear R q c0 j;obtain⟨-,c1,-,-,-,j⟩:=H2.o.cells;go_wp2_with fail;refine(GZ A n l t o' r g' p'.a w2 H2.o.rg HF.o).mono ?_;rintro e w3 ⟨rfl,S⟩;rw[M.o];obtain⟨n1,n2,n3⟩:=Lr p'.a;obtain⟨o3,g3,U,V⟩:=H2.o.ref S n1 n2;have ap:gy (Ui b Z W X A C t r ev mb Ms n l H maybe ever armed maybe2 ever2 armed2 s B w w3):=gj ⟨_,o3,g3,_,_,U,⟨D.o.st.own n1 n2 n3 rfl HF.o.next,D.o.iF,D.o.evl,D.o.B⟩,aE.o.trans V⟩;clear U V S c1 j n1 n2 n3;go_wp2;go_roundw
   case rel=>exact⟨k+1,by omega,by go_num,ap.o⟩
   case measure=>simp[intOf];omega
  .obtain rfl:k=d:=by omega
   have aa:¬(k:Int)<(k:Int):=by omega
   have u:=gj hrel;clear hrel;go_wp2;go_ret;exact⟨rfl,u.o⟩
end
def UI(w:Q0)(b:Nat)(Z:Nat->Obj->Prop)(W X n:Nat)(l:List Int)(H:gA)(p:iM):Prop:=∃A K C o r mb,nH w b Z W X A K C (Q6 J 0 0) o r (Q6 J 0 0) (Q6 J 0 0) mb [A] n l H (N p) (lE 0 []) [(0,[])] [] false/\uG n l 0 480 H (N p) (lE 0 []) [(0,[])] [] false
theorem nH.UJ{w:Q0}{Z:Nat->Obj->Prop}{X A n:Nat}{l:List Int}{H:gA}{p:iM}{o:Q4}(hZ:∀j x,Z j x->w.heap[j]?=N x)(U:gZ w)(ap:kM w)(h1:lM w1 M X H (N p))(hM:∀k,M k->G (Q w)<=k)(B:Q8 (G (Q w)) w w1)(V:Q8 (G (Q w1)) w1 w2)(av:∀j,Rl u=N j->G (Q w1)<=j)(d:jW w3 A n l (Q6 J 0 0) o u (Q6 J 0 0) (lE 0 []))(hA:G (Q w2)<=A)(ho:∀j,Rl o=N j->G (Q w2)<=j)(aa:Q8 (G (Q w2)) w2 w3){W mb:Nat}(E:Q8 (G (Q w3)) w3 s)(hW:G (Q w3)<=W)(bc:G (Q w3)<=mb)(q:s.heap[W]?=N (Q1 #[Q5 (N ⟨X,0,J⟩),Q5 (N ⟨A,0,J⟩),Q6 (N ⟨mb,0,J⟩) 1 1,Q6 J 0 0,Rh false] 58 (0,0)))(hr:s.heap[mb]?=N (Q1 #[Q5 (N ⟨A,0,J⟩)] 55 (0,0)))(aE:kx n l 0 480 H (N p) (lE 0 []) [(0,[])] [] false)(al:H.dp.iF=[]):
  UI s (G (Q w)) Z W X n l H p:=by
 have s1:=B.size;have s2:=V.size;have s3:=aa.size;have s4:=E.size;have lW:=gm q;have a0:=gm hr;have lA:=gm d.row;have lz:∀j x,Z j x->j<G (Q w):=fun j x r=>gm (hZ j x r);have lo:∀j,Rl o=N j->j<G (Q w3):=fun j e=>gS.iA d.out.own j e;have lr:∀j,Rl u=N j->j<G (Q w3):=fun j e=>d.lt j (.inr (.inl e));obtain⟨p1,p2,-⟩:=nh 0 [];have hx:=pY.new h1 hM B U ap;have F:Q8 (G (Q w1)) w1 s:=(V.trans (aa.mono s2)).trans (E.mono (by omega));have a4:=hx.grow (D:=fun _=>False) (gR.gO F) fun k e=>e.elim;have R:=d.below E;have a5:W≠mb:=fun e=>by rw[e,hr]at q;simp at q
 refine⟨A,Kn (fun k=>k<G (Q w)) w1 s,fun j=>j=mb\/Rl u=N j\/∃x,Z j x,o,u,mb,⟨q,hr,rfl,by simp,fun i M' m y b=>?_,R,a4,gS.nil _ _ _,gQ.nil _ _,⟨.inr ⟨by omega,lW⟩,by omega⟩,⟨.inr ⟨by omega,by omega⟩,by omega⟩,fun j e=>by simp[Value.ownBlock]at e,fun j e=>.inr (.inl e),.inl rfl,fun j e=>by simp[Value.ownBlock]at e,fun j e=>⟨.inr ⟨by have:=ho j e;omega,by have:=lo j e;omega⟩,by have:=ho j e;omega⟩,fun j e=>by simp[Value.ownBlock]at e,fun j hj=>?_,fun k hk=>.inl hk,U.two,fun j x r=>⟨.inr (.inr ⟨x,r⟩),?_⟩⟩,⟨aE,fun _ _=>al,by simp,by simp⟩⟩
 .match i,y,b with
  | 0,y,b=>
   simp only[aY,dz]at y b;subst y b;have:=wH.self R (C:=fun j=>j=mb\/Rl u=N j\/∃x,Z j x) fun j e=>by simp[Value.ownBlock]at e
   rw[p1,p2]at this;exact⟨this,fun _=>by rw[p1,p2]⟩
  | i+1,y,b=>simp at y
 .rcases hj with rfl|e|⟨x,r⟩
  .exact⟨.inr ⟨by omega,a0⟩,by omega,fun e=>a5 (Eq.symm e),fun e=>by have:=lo _ e;omega,by simp[Value.ownBlock]⟩
  .have S:=av j e;have k2:=lr j e;exact⟨.inr ⟨by omega,by omega⟩,fun b=>d.sepA.2.1 (by rw[e,b]),by omega,fun b=>(d.sep j b).2.1 e,by simp[Value.ownBlock]⟩
  .have S:=lz j x r;exact⟨.inl S,by omega,by omega,fun b=>by have:=ho j b;omega,by simp[Value.ownBlock]⟩
 .have S:=lz j x r;have a6:=(B.block j S).trans (hZ j x r);exact(F.block j (by omega)).trans a6
theorem Uf(b:Int)(l:List Int)(V:Q4)(w:Q0)(Z:Nat->Obj->Prop)(hZ:∀j x,Z j x->w.heap[j]?=N x)(hr:gE w V 1 (O l) (l.map fun i=>I Y i))(hl:O l<=im)(n:Nat)(hn:(n:Int)=min (max b 32) 128)(u:gZ w)(y:kM w)(H:gA)(p:iM)(ag:j7 (rX n (gY l))=(H,.inl p))(h5:H.dp.iF=[])(h6:kx n l 0 480 H (N p) (lE 0 []) [(0,[])] [] false):
  Rg prog 24 #[I Y b,V] w fun e w'=>∃W X,e=Ra (Rc #[Q5 (N ⟨W,0,J⟩),Rh true])/\UI w' (G (Q w)) Z W X n l H p/\Q8 (G (Q w)) w w':=by
 have bX:32<=n/\n<=128:=by omega
 have ak:=gj (MY n l V w hr n (by omega) u y H p ag);have B:=gj (fun w' (hb:Q8 (G (Q w)) w w')=>EL V l w' (gE.below hr hb) hl);have C:=gj (fun r' w' bi bk=>wy 0 n l (Q6 J 0 0) r' [] w' (gE.nil _ _ _ _) bi bk (by omega));have HZ:=gj hZ;have bl:=gj u;have bn:=gj y;have bo:=gj h6;have a6:=gj h5;obtain⟨-,ra,rc,rfl,-,-⟩:=hr;clear ag h5 h6 u y hZ;go_enter func24,ntmps24;have aa:(b<32/\(n:Int)=32)\/(¬b<32/\128<b/\(n:Int)=128)\/(¬b<32/\¬ 128<b/\(n:Int)=b):=by omega
 clear hn;rcases aa with ⟨c1,c2⟩|⟨c1,c3,c2⟩|⟨c1,c3,c2⟩
 all_goals
  rw[c2]at ak C;clear c2;go_wp2_with fail;refine ak.o.mono ?_;rintro e w1 ⟨X,M,rfl,h1,hM,am⟩;have H1:=gj h1;have HM:=gj hM;have D:=gj am;have a7:=gj (B.o);have r:Q8 (G (Q w1)) w1 (Ro w1 (Q1 #[I Y 0,I Y 0,I Y 0] 34)):=(Below.rf w1).al _;have F2:=gB w1 (Q1 #[I Y 0,I Y 0,I Y 0] 34);clear h1 hM am;unfold sH;go_wp2_with fail;generalize Ro w1 (Q1 #[I Y 0,I Y 0,I Y 0] 34)=w2 at *
  refine(B.o w2 (D.o.tn r)).mono ?_;rintro e w3 ⟨ap,rfl,av,E,F⟩;have aE:=gj (r.tn E);have m:=oI E F2;have f0:=gr 0 m;have f1:=gr 1 m;have f2:=gr 2 m;have a0:=gm m;have bt:=gj (fun j e=>au r.size (F j e).1:∀j,Rl ap=N j->G (Q w1)<=j);have R:=gj (C.o ap w3 av fun j e=>e.elim (fun e=>by simp[Value.ownBlock]at e) fun e=>(F j e).2);clear r F2 E F av;go_wp2_with fail;refine R.o.mono ?_;rintro e d ⟨A,o,rfl,hA,a1,ho,S⟩;have bx:=gj a1;have HA:=gj hA;have bz:=gj ho;have a2:=gj S;have q:=oI S m;clear a1 hA ho S f0 f1 f2 a0 m;have f0:=gr 0 q;have f1:=gr 1 q;have f2:=gr 2 q;have a0:=gm q;clear q R a7 B C;go_wp2_with fail;have M5:=gB d (Q1 #[Q5 (N ⟨A,0,J⟩)] 55);have s5:(Ro d (Q1 #[Q5 (N ⟨A,0,J⟩)] 55)).heap.size=G (Q d)+1:=aj _ _;have U:Q8 (G (Q d)) d (Ro d (Q1 #[Q5 (N ⟨A,0,J⟩)] 55)):=(Below.rf d).al _;generalize Ro d (Q1 #[Q5 (N ⟨A,0,J⟩)] 55)=w5 at *
  have R6:=gB w5 (Q1 #[Q5 (N ⟨X,0,J⟩),Q5 (N ⟨A,0,J⟩),Q6 (N ⟨G (Q d),0,J⟩) 1 1,Q6 J 0 0,Rh false] 58);have s:Q8 (G (Q w5)) w5 (Ro w5 (Q1 #[Q5 (N ⟨X,0,J⟩),Q5 (N ⟨A,0,J⟩),Q6 (N ⟨G (Q d),0,J⟩) 1 1,Q6 J 0 0,Rh false] 58)):=(Below.rf w5).al _;generalize Ro w5 (Q1 #[Q5 (N ⟨X,0,J⟩),Q5 (N ⟨A,0,J⟩),Q6 (N ⟨G (Q d),0,J⟩) 1 1,Q6 J 0 0,Rh false] 58)=w6 at *
  rw[s5]at R6;have a3:UI w6 (G (Q w)) Z (G (Q d)+1) X n l H p:=nH.UJ HZ.o bl.o bn.o H1.o HM.o D.o aE.o bt.o bx.o HA.o bz.o a2.o (U.tn s) (dS _) gH R6 (oI s M5) bo.o a6.o;have bD:=gj a3;have bE:gy (Q8 (G (Q w)) w w6):=gj ((((D.o.tn aE.o).tn a2.o).tn U).tn s);obtain⟨A9,K9,C9,o9,r9,b0,a4,bH⟩:=a3;have bI:=gj (yl K9 X H (N p) w6 a4.x);clear a4 bH M5 s5 U R6 s;refine bI.o.mono ?_;rintro e w7 ⟨rfl,rfl⟩;go_wp2;refine ai (v:=Rc #[Q5 (N ⟨G (Q d)+1,0,J⟩),Rh true]) (by simp[results,results24,go_sem]) rfl ?_;exact⟨_,_,rfl,bD.o,bE.o⟩
theorem nH.UP{w w':Q0}{Z:Nat->Obj->Prop}{b W X A:Nat}{K C:Nat->Prop}{t t' o r g ev:Q4}{mb:Nat}{n:Nat}{l:List Int}{H:gA}{P:Option iM}{a a':iy}{ever:List E}{armed:Bool}(h:nH w b Z W X A K C t o r g ev mb [A] n l H P a [(a.V,a.T)] ever armed)(h1:jW w' A n l t' o' r g a')(s:gR (KE A o) w w')(S:∀j,Rl o'=N j->Rl o=N j\/G (Q w)<=j)(h4:∀j,Rl t'=N j->Rl t=N j\/G (Q w)<=j):
  nH w' b Z W X A (Kn K w w') (fun j=>C j\/Rl t'=N j) t' o' r g ev mb [A] n l H P a' [(a'.V,a'.T)] ever armed/\Q8 b w w':=by
 obtain⟨n1,U,n5⟩:=h.ne;have u:=h.x.lt;have av:=h.lt;have D:∀k,KE A o k->K k/\b<=k:=fun k e=>e.elim (fun e=>by rw[e];exact h.kA) fun e=>h.ko k e;have hC:∀j,C j->¬KE A o j:=fun j q F=>F.elim (h.c j q).2.1 (h.c j q).2.2.2.1;have hE:∀j,Rl ev=N j->¬KE A o j:=fun j e F=>F.elim (n5 j e).2 fun d=>(U j d).2.2 e;have ho:∀j,j<G (Q w)->Rl o≠N j->Rl o'≠N j:=fun j h5 h6 e=>(S j e).elim h6 fun e=>by omega
 refine⟨⟨s.at (fun e=>e.elim n1 fun e=>(U _ e).1 rfl) h.row,s.at (hC mb h.cmb) h.mbr,rfl,h.two,fun i M m y d=>?_,h1,h.x.grow s fun k e=>⟨(D k e).1,au h.b2 (D k e).2⟩,h.evo.frame s.size fun j e q=>s.block j q (hE j e),h.evT.frame fun j e q=>s.block j q (hE j e),⟨.inl h.kW.1,h.kW.2⟩,⟨.inl h.kA.1,h.kA.2⟩,fun j e=>.inr e,fun j e=>.inl (h.cr j e),.inl h.cmb,fun j e=>⟨.inl (h.cg j e).1,(h.cg j e).2⟩,fun j e=>?_,fun j e=>.inl (h.kev j e),fun j q=>?_,fun k hk=>.inl (h.kb k hk),h.b2,fun j x R=>⟨.inl (h.z j x R).1,s.at (hC j (h.z j x R).1) (h.z j x R).2⟩⟩,s.below h.lt fun k hk e=>by have:=(D k e).2;omega⟩
 .match i,y,d with
  | 0,y,d=>simp only[aY,dz]at y d;subst y d;exact⟨wH.self h1 fun j e=>.inr e,fun _=>rfl⟩
  | i+1,y,d=>simp at y
 .rcases S j e with d|d
  .exact⟨.inl (h.ko j d).1,(h.ko j d).2⟩
  .exact⟨.inr ⟨d,gS.iA h1.out.own j e⟩,by omega⟩
 .have iI:C j->Kn K w w' j/\j≠A/\j≠W/\Rl o'≠N j/\Rl ev≠N j:=fun q=>by
   obtain⟨c1,c2,c3,c4,c5⟩:=h.c j q;exact⟨.inl c1,c2,c3,ho j (u j c1) c4,c5⟩
  rcases q with q|e
  .exact iI q
  .rcases h4 j e with d|d
   .exact iI (h.ct j d)
   .exact⟨.inr ⟨d,h1.lt j (.inl e)⟩,fun B=>by have:=u A h.kA.1;omega,fun B=>by have:=u W h.kW.1;omega,fun B=>(h1.sep j B).1 e,fun B=>by have:=u j (h.kev j B);omega⟩
structure Calm(H:gA):Prop where
 fail:H.fail=-1
 left:H.dp.left=-1
 ir:H.dp.ir=false
theorem T7{d:jz}(h1:d.left=-1)(i:d.ir=false):d.stop=d:=by obtain⟨l,b,r,S,g⟩:=d;simp only at h1 i;subst h1 i;rfl
theorem Calm.jy{H:gA}(h:Calm H):H.jy=H/\H.jM=false:=by
 refine⟨?_,?_⟩
 .unfold gA.jy;rw[aw (by rw[h.fail];omega)]
 .unfold gA.jM;rw[h.fail];decide
theorem Ud:∀(ps:List gw) (H:gA) (at':Nat),Calm H->(jc ps H at').2=J/\(jc ps H at').1.il=H.il+O ps/\Calm (jc ps H at').1/\(jc ps H at').1.gG.length=O H.gG
 | [],H,_,h=>⟨rfl,by simp[jc],h,rfl⟩
 | s::ps,H,at',h=>by
  obtain⟨a1,a2⟩:=h.jy;unfold jc;have e:H.write at' s=({H with il:=H.il+1,gG:=H.gG.set at' s,gX:=H.gX++[(s,at')]},J):=by unfold gA.write;rw[a1,a2,T7 h.left h.ir,h.ir];rfl
  rw[e];simp only;obtain⟨h1,b,d,i⟩:=Ud ps {H with il:=H.il+1,gG:=H.gG.set at' s,gX:=H.gX++[(s,at')]} (at'+1) ⟨h.fail,h.left,h.ir⟩;refine⟨h1,b.trans ?_,d,i.trans cA⟩;rw[ao];show H.il+1+(O ps:Int)=_;omega
theorem T8{H:gA}(g:jP)(at':Nat)(data:gw)(h:Calm H):(gT H g at' data).2=J/\(gT H g at' data).1.il=H.il+iw (O data)/\Calm (gT H g at' data).1/\(gT H g at' data).1.gG.length=O H.gG:=by
 unfold gT;obtain⟨w1,w2,w3,b⟩:=Ud (iH (g.gF+1) data) H at' h;generalize jc (iH (g.gF+1) data) H at'=q at *
 obtain⟨H1,r⟩:=q;simp only at w1 w2 w3 b;subst w1;obtain⟨a1,a2⟩:=w3.jy;have d:H1.jY=({H1 with held:=ig (fun _=>true) 0 H1.gX H1.held,gX:=[]},J):=by unfold gA.jY;rw[a1,a2,T7 w3.left w3.ir,w3.ir];rfl
 show H1.jY.2=J/\H1.jY.1.il=_/\Calm H1.jY.1/\O H1.jY.1.gG=_;rw[d];rw[lP]at w2;exact⟨rfl,w2,⟨w3.fail,w3.left,w3.ir⟩,b⟩
theorem UE{H:gA}(g:jP)(b:gw)(v:Nat)(T:List E)(h:Calm H):
  (jH H g b v T).2.2=J/\Calm (jH H g b v T).1/\(jH H g b v T).1.gG.length=O H.gG/\
    ((O H.gG<g.next+iw (O b)/\(jH H g b v T).2.1.next=2*ik (O H.gG)+iw (O b)/\(jH H g b v T).1.il=H.il+iw (kh v T).length+iw (O b))\/
     (g.next+iw (O b)<=O H.gG/\(jH H g b v T).2.1.next=g.next+iw (O b)/\(jH H g b v T).1.il=H.il+iw (O b))):=by
 have o:∀(H:gA) (g:jP),Calm H->(jk H g b).2.2=J/\Calm (jk H g b).1/\(jk H g b).1.gG.length=O H.gG/\(jk H g b).2.1.next=g.next+iw (O b)/\(jk H g b).1.il=H.il+iw (O b):=by
  intro H g h;unfold jk;obtain⟨w1,w2,w3,d⟩:=T8 g g.next b h;generalize gT H g g.next b=q at *
  obtain⟨H1,r⟩:=q;simp only at w1 w2 w3 d;subst w1;exact⟨rfl,w3,d,rfl,w2⟩
 unfold jH;by_cases i:O H.gG<g.next+iw (O b)
 .rw[aw i];unfold iz;obtain⟨w1,w2,w3,d⟩:=T8 g ((1-g.iC)*ik (O H.gG)) (kh v T) h;generalize gT H g ((1-g.iC)*ik (O H.gG)) (kh v T)=q at *
  obtain⟨H1,r⟩:=q;simp only at w1 w2 w3 d;subst w1;obtain⟨n1,n2,j,l,m⟩:=o H1 ⟨g.gF+1,1-g.iC,2*ik (O H.gG)⟩ w3;refine⟨n1,n2,j.trans d,.inl ⟨i,l,?_⟩⟩;exact m.trans (by rw[w2])
 .rw[af i];obtain⟨n1,n2,j,l,m⟩:=o H g h;exact⟨n1,n2,j,.inr ⟨by omega,l,m⟩⟩
theorem Us:∀(os:List wF) (d:jz),d.left=-1->d.ir=false->(d.run os).left=-1/\(d.run os).ir=false
 | [],d,h1,b=>⟨h1,b⟩
 | o::os,d,h1,b=>by
  have i:(d.step o).left=-1/\(d.step o).ir=false:=by
   obtain⟨k,v⟩:=o;cases v with
   | none=>unfold jz.step jz.drop;simp only;rw[T7 h1 b,b];exact⟨h1,rfl⟩
   | some v=>
    unfold jz.step jz.put;simp only;rw[T7 h1 b,b];simp only[ew,dA];split
    .exact⟨h1,rfl⟩
    .exact⟨h1,rfl⟩
  exact Us os (d.step o) i.1 i.2
def Since(n:Nat)(P:iM)(taken:Nat)(b:Int):Prop:=∃c:Nat,P.lg.next<=2*ik n+3*c/\b<=(taken:Int)-c+1
theorem Since.zero{n:Nat}{P:iM}(h:P.lg.next=2*ik n):Since n P 0 (-4):=⟨0,by omega,by omega⟩
theorem Since.step{n:Nat}{l:List Int}{H:gA}{P:iM}{os:List kv}{taken:Nat}{b:Int}(h:Since n P taken b)(i:qP n l H P)(o:32<=n/\n<=128)(hc:Calm H)(hl:jG ((iV.delta v os).T P.a.T) (gY l) n=J)(E:(tS v os).length<=150):
  Calm (nz H P (.delta v os)).1/\(nz H P (.delta v os)).2.a.l4=J/\∃k:Nat,(nz H P (.delta v os)).1.il=H.il+k/\Since n (nz H P (.delta v os)).2 (taken+1) (if 4<k then taken+1 else b)/\(4<k->4<=(taken:Int)+1-b):=by
 have C:=mg o.1 o.2;have d:O H.gG=n:=by rw[i.tB.gG,i.tB.len]
 have D:iw (tS v os).length<=3:=by unfold iw;omega
 have e:nz H P (.delta v os)=An P (.delta v os) (jH H P.lg (tS v os) P.a.V P.a.T):=by unfold nz;rw[i.room,d,hl];rfl
 rw[e];obtain⟨c,h1,F⟩:=h;obtain⟨s,j,x,m⟩:=UE P.lg (tS v os) P.a.V P.a.T hc;rw[d]at m;generalize jH H P.lg (tS v os) P.a.V P.a.T=q at *
 obtain⟨H1,g1,r⟩:=q;simp only at s j x m;subst s;obtain⟨r1,r2⟩:=Us (lU H1.dp.S (iO P.a.T os)) H1.dp j.left j.ir;refine⟨⟨j.fail,r1,r2⟩,(lN _ _ _).1.trans i.l4,?_⟩;rcases m with ⟨y,B,u⟩|⟨y,B,u⟩
 .refine⟨iw (kh P.a.V P.a.T).length+iw (tS v os).length,?_,⟨1,?_,?_⟩,fun _=>by omega⟩
  .show H1.il=_;omega
  .show g1.next<=_;omega
  .split<;>omega
 .refine⟨iw (tS v os).length,u,⟨c+1,?_,?_⟩,fun h=>by omega⟩
  .show g1.next<=_;omega
  .rw[af (by omega)];omega
def T9(n:Nat):K:=
 if n%3=0 then(0,[2,0,0,0,UInt8.ofNat (n / 3%5),UInt8.ofNat (n / 15)])
 else if n%3=1 then(1,[10,UInt8.ofNat (n / 3%5),0,0,UInt8.ofNat (16+n / 15)])
 else(2,[UInt8.ofNat (n / 3%5),UInt8.ofNat (n / 15)])
def Uy(n:Nat):UInt8:=if n=0 then 0 else if n=1 then 6 else 17
def Uw(c d:Int):kv:=
 let k:=T9 (uB c 60).toNat
 let n:=(uB d 40).toNat
 if n%4=0 then⟨2,k.1,k.2,[]⟩
 else if k.1=2 then⟨1,k.1,k.2,[Uy (n%3),UInt8.ofNat (n / 3%2)]⟩
 else⟨1,k.1,k.2,[1,UInt8.ofNat n,0,9]⟩
theorem UA:∀n,n<60->0<=(T9 n).1/\(T9 n).1<3/\js (T9 n).1 (T9 n).2=true:=by decide +kernel
theorem UB:∀n,n<40->¬n%4=0->jb 2 [Uy (n%3),UInt8.ofNat (n / 3%2)]=true/\jb 0 [1,UInt8.ofNat n,0,9]=true/\jb 1 [1,UInt8.ofNat n,0,9]=true:=by decide +kernel
theorem Ur(c d:Int)(o:List K)(h:o.contains ((Uw c d).table,(Uw c d).key)=false):iZ (Uw c d) o=0:=by
 obtain⟨s,b2⟩:=zD c 60 (by omega);obtain⟨u,x⟩:=zD d 40 (by omega);obtain⟨b,i,j⟩:=UA (uB c 60).toNat (by omega);have q:=UB (uB d 40).toNat (by omega);unfold Uw at h⊢;simp only at h⊢;by_cases l:(uB d 40).toNat%4=0
 .rw[aw l]at h⊢;exact rL (.inr rfl) b i j h rfl
 .obtain⟨r,v2,v3⟩:=q l;rw[af l]at h⊢;by_cases m:(T9 (uB c 60).toNat).1=2
  .rw[aw m]at h⊢;refine rL (.inl rfl) b i j h ?_;unfold yg;simp only[m];exact r
  .rw[af m]at h⊢;refine rL (.inl rfl) b i j h ?_;unfold yg;simp only;rw[af (by decide)];have:(T9 (uB c 60).toNat).1=0\/(T9 (uB c 60).toNat).1=1:=by omega
   rcases this with h|h<;>rw[h]
   .exact v2
   .exact v3
end Go.Proofs.YtkkfmkhbdoeglabGreatDoor
