/- Lemmas of the proof. No condition. -/
import Derived.Test.YtkkfmkhbdoeglabGreatDoorG28
import Derived.Test.YtkkfmkhbdoeglabGreatDoorG30
set_option maxHeartbeats 8000000
set_option maxRecDepth 100000
namespace Go.Proofs.YtkkfmkhbdoeglabGreatDoor
open Go renaming World->Q0,Value->Q4,Calls->Rg
open Go.Ending renaming returned->Ra
open Go.IntKind renaming i64->Y,u64->Re
open Go.Obj renaming cells->Q1
open Go.RowKit renaming Below->Q8
open Go.Value renaming int->I,pointer->Q5,slice->Q6,string->Q7,agg->Q9,tuple->Rc,bool->Rh,ownBlock->Rl
open Go.World renaming heap->Q,cell?->Rn,alloc->Ro,setCell->Rp
open List renaming length->O,toArray->Rm
open Option renaming none->J,some->N
open _root_.Array renaming size->G
open Go.Proofs.Tryz
open Go.RowKit
variable{F R cap s:Nat}{os:List kv}{w3:Q0}
theorem sV.pass{w y:Q0}{A n:Nat}{l:Vf}{t o r g:Q4}{a:iy}{x:iy×Option iV}{e:Ending}(u:jW w A n l t o r g a)(S:Q8 (G (Q w)) w w3)(h:sV w3 A n l t o r g x e y)(U:G (Q w)<=R)(V:w3.heap[R]?=N (Q1 #[Rh false,I Re 0,I Re 0,Q6 J 0 0,Q6 J 0 0] 65 (0,0))):
  ∃(b0:Bool) (b d:Int) (s1:Option Addr) (i m:Nat) (s2:Option Addr) (q s:Nat),e=Ra (Rc #[Q9 #[Rh b0,I Re b,I Re d,Q6 s1 i m,Q6 s2 q s],Rh x.2.isSome])/\y.heap[R]?=N (Q1 #[Rh false,I Re 0,I Re 0,Q6 J 0 0,Q6 J 0 0] 65 (0,0))/\
   gy ((oB y R (Rh b0) (I Re b) (I Re d) (Q6 s1 i m) (Q6 s2 q s)).heap[R]?=N (Q1 #[Rh b0,I Re b,I Re d,Q6 s1 i m,Q6 s2 q s] 65 (0,0))/\
    sV w A n l t o r g x (Ra (Rc #[Q9 #[Rh b0,I Re b,I Re d,Q6 s1 i m,Q6 s2 q s],Rh x.2.isSome])) (oB y R (Rh b0) (I Re b) (I Re d) (Q6 s1 i m) (Q6 s2 q s))):=by
 obtain⟨v,rfl,E,F,W⟩:=h;obtain⟨b0,b,d,s1,i,m,s2,q,s,rfl⟩:=E.agg;have M:y.heap[R]?=N (Q1 #[Rh false,I Re 0,I Re 0,Q6 J 0 0,Q6 J 0 0] 65 (0,0)):=by obtain⟨o',g',-,Z,-⟩:=F;exact Z.at (u.Kq U) V
 have B:=yc y R (Rh b0) (I Re b) (I Re d) (Q6 s1 i m) (Q6 s2 q s);have C:=gm V;refine⟨b0,b,d,s1,i,m,s2,q,s,rfl,M,gj ⟨Am M _ _ _ _ _,_,rfl,E.Qj S.size B fun j D=>by rw[D];exact C,mr.done u S F B fun j D=>by rw[D];exact⟨U,C⟩,fun hs=>?_⟩⟩;obtain⟨g',h1,X⟩:=W hs;refine⟨g',h1.ext B (fun e=>by have:=gm u.row;omega) (fun j e D=>?_),fun j e=>(X j e).imp id fun e=>au S.size e⟩;have ag:j=R:=D;rcases e with e|e|e|e
 .have:=u.lt j (.inl e);omega
 .have:=gS.iA u.out.own j e;omega
 .have:=u.lt j (.inr (.inl e));omega
 .rcases X j e with e|e
  .have:=u.lt j (.inr (.inr e));omega
  .omega
theorem E1(A n:Nat)(l:Vf)(t o r g:Q4)(a:iy)(frame:gw)(w:Q0)(h:jW w A n l t o r g a)(hf:a.mN)(hb:O frame<=1000000)(hd:∀f,a.l4=N f->1<=f.1):
  Rg prog 29 #[Q5 (N ⟨A,0,J⟩),Q7 ⟨Rm frame⟩] w (sV w A n l t o r g (a.taken frame)):=by
 have bA:Q8 (G (Q w)) w ((Ro w (Q1 #[Rh false,I Re 0,I Re 0,Q6 J 0 0,Q6 J 0 0] 65)).alloc (Q1 #[Rh false,I Re 0,I Re 0,Q6 J 0 0,Q6 J 0 0] 65)):=((Below.rf w).alloc gH _).alloc (by rw[aj];omega) _;have N1:=pA w (Q1 #[Rh false,I Re 0,I Re 0,Q6 J 0 0,Q6 J 0 0] 65) (Q1 #[Rh false,I Re 0,I Re 0,Q6 J 0 0,Q6 J 0 0] 65);have R1:=gP (Ro w (Q1 #[Rh false,I Re 0,I Re 0,Q6 J 0 0,Q6 J 0 0] 65)) (Q1 #[Rh false,I Re 0,I Re 0,Q6 J 0 0,Q6 J 0 0] 65) (gB w (Q1 #[Rh false,I Re 0,I Re 0,Q6 J 0 0,Q6 J 0 0] 65));have bi:=gj bA;have HH:=gj h;have HF:=gj hf;have ho:=hf.out;have b6:=gm h.row;have b8:(1000010:Nat)<=im:=by decide
 go_enter func29,ntmps29;go_upto_region 2 with fail;generalize (Ro w (Q1 #[Rh false,I Re 0,I Re 0,Q6 J 0 0,Q6 J 0 0] 65)).alloc (Q1 #[Rh false,I Re 0,I Re 0,Q6 J 0 0,Q6 J 0 0] 65)=w1 at *
 obtain⟨R,hR⟩:∃R,R=G (Q w):=⟨_,rfl⟩;rw[<-hR]at R1 N1⊢;have bk:gy (G (Q w)<=R):=gj (by omega);have H1:=gj (HH.o.below bi.o);have c3:=gr 3 H1.o.row;have bl:=gm H1.o.row;have bn:=gj R1;have bX:=gj N1;have M:gy (∀(a':iy) (W:Q0),mr w1 A n l t o r g a' W->a.taken frame=(a',J)->W.heap[R]?=N (Q1 #[Rh false,I Re 0,I Re 0,Q6 J 0 0,Q6 J 0 0] 65 (0,0))/\W.heap[R+1]?=N (Q1 #[Rh false,I Re 0,I Re 0,Q6 J 0 0,Q6 J 0 0] 65 (0,0))/\gy ((oB W R (Rh false) (I Re 0) (I Re 0) (Q6 J 0 0) (Q6 J 0 0)).heap[R]?=N (Q1 #[Rh false,I Re 0,I Re 0,Q6 J 0 0,Q6 J 0 0] 65 (0,0))/\sV w A n l t o r g (a.taken frame) (Ra (Rc #[Q9 #[Rh false,I Re 0,I Re 0,Q6 J 0 0,Q6 J 0 0],Rh false])) (oB W R (Rh false) (I Re 0) (I Re 0) (Q6 J 0 0) (Q6 J 0 0)))):=gj (fun a' W j S=>by obtain⟨q1,q2,q3⟩:=sV.Pk HH.o bi.o j bk.o bn.o bX.o;refine⟨q1,q2,gj ⟨q3.out.1,?_⟩⟩;rw[S];exact⟨_,rfl,rfl,q3.out.2,fun h=>by cases h⟩);clear h hf bA R1 N1 hR;by_cases am:a.l4=J
 .rw[Dp am]at c3
  have D:gy (a.taken frame=match lQ frame with
   | .inr f=>(a.pW f.1,none)
   | .inl (k,body)=>if k=1 then a.delta body else if k=2 then(if body=[]then a.ki else a.pW 2,none)else if k=3 then(a.mW body,none)else if k=4 then a.piece body else(a.pW 6,none)):=gj (by unfold iy.taken;rw[af (by rw[am];decide)];rfl)
  have HU:=gj (CV frame w1 (by omega));clear am hd;unfold rP at HU;cases aa:lQ frame with
  | inr f=>
   obtain⟨k,p⟩:=f;rw[aa]at D HU;have hk:=Fm frame aa;have b9:((k:Int)==0)=false:=ar.2 (by omega);simp only at D HU;clear aa;go_wp2_with fail;refine HU.o.mono ?_;rintro e w2 ⟨rfl,ap⟩;have Z:=gB w2 (Q1 #[I Y (k:Int),I Y (p:Int)] 31);have C:=gj (ap.tn ((Below.rf w2).alloc gH (Q1 #[I Y (k:Int),I Y (p:Int)] 31)));clear ap c3 bl;go_upto_region 7 with fail;generalize Ro w2 (Q1 #[I Y (k:Int),I Y (p:Int)] 31)=w3 at *
   obtain⟨f0,f1,U⟩:=xc Z;go_wp2_with fail;refine(nu A n l t o r g a k p w3 (H1.o.below C.o) HF.o (by omega)).mono ?_;rintro e w4 ⟨rfl,j⟩;obtain⟨d,E,b⟩:=M.o _ _ (mr.first C.o j) D.o;obtain⟨y0,y1,y2,y3,y4,V⟩:=lB d;obtain⟨z0,z1,z2,z3,z4⟩:=oS d;obtain⟨q,s,u,x,B,-⟩:=lB b.out.1;obtain⟨n0,n1,n2,n3,n4,av⟩:=lB E;clear j d E f0 f1 U Z;unfold oB at q s u x B;go_wp2_with fail;exact ai (by simp[results,results29,go_sem,q,s,u,x,B]) rfl b.out.2
  | inl y=>
   obtain⟨F,body⟩:=y;rw[aa]at D HU;have ca:=xf aa;simp only at D HU;clear aa;have kf:∀m:Nat,m<256->(((F.toNat:Int))==(m:Int))=decide (F=UInt8.ofNat m):=fun m hm=>by
    have h2:(UInt8.ofNat m).toNat=m:=by rw[fe];omega
    by_cases h:F=UInt8.ofNat m
    .rw[bh h,h,h2];exact eW _
    .rw[aF h];refine ar.2 fun e=>h ?_;rw[<-dO,h2];omega
   have e1:((F.toNat:Int)==1)=decide (F=1):=kf 1 (by omega);have e2:((F.toNat:Int)==2)=decide (F=2):=kf 2 (by omega);have e3:((F.toNat:Int)==3)=decide (F=3):=kf 3 (by omega);have e4:((F.toNat:Int)==4)=decide (F=4):=kf 4 (by omega);have e5:((body==([]:gw)):Bool)=decide (body=[]):=by cases body<;>rfl
   clear kf;obtain⟨K,hK⟩:∃K:Int,K=F.toNat:=⟨_,rfl⟩;rw[<-hK]at e1 e2 e3 e4 HU;clear hK;go_wp2_with fail;refine HU.o.mono ?_;rintro e w2 ⟨rfl,ap⟩;have Z:=gB w2 (Q1 #[I Y 0,I Y 0] 31);have C:=gj (ap.tn ((Below.rf w2).alloc gH (Q1 #[I Y 0,I Y 0] 31)));clear ap c3 bl HU;go_upto_region 7 with fail;generalize Ro w2 (Q1 #[I Y 0,I Y 0] 31)=w3 at *
   obtain⟨f0,f1,U⟩:=xc Z;have bB:=gj (gC C.o (gm bn.o) bn.o);have bD:=gj (bi.o.tn C.o);have H3:=gj (H1.o.below C.o);by_cases h1:F=1
   .rw[bh h1]at e1;have i:gy (a.taken frame=a.delta body):=gj (by rw[D.o,aw h1]);clear h1 e2 e3 e4 e5 D;go_wp2_with fail;refine(BH A n l t o r g a body w3 H3.o HF.o (by omega)).mono ?_;intro e w4 S;obtain⟨b0,m1,m2,s1,n1,q1,s2,n2,q2,rfl,X,b⟩:=S.pass HH.o bD.o bk.o bB.o;rw[<-i.o]at b⊢;obtain⟨q,s,u,x,B,-⟩:=lB b.out.1;obtain⟨y0,y1,y2,y3,y4,bP⟩:=lB X;obtain⟨z0,z1,z2,z3,z4⟩:=oS X;clear S X f0 f1 U Z;unfold oB at q s u x B b;generalize (a.taken frame).2.isSome=bs at *
    go_wp2_with fail;exact ai (by simp[results,results29,go_sem,q,s,u,x,B]) rfl b.out.2
   .rw[aF h1]at e1;have i:=D.o;rw[af h1]at i;clear D h1;by_cases h2:F=2
    .rw[bh h2]at e2;rw[aw h2]at i;clear h2 e3 e4;by_cases ag:body=[]
     .rw[bh ag]at e5;rw[aw ag]at i;have D:=gj i;clear i ag;go_wp2_with fail;refine(nL A n l t o r g a _ (H1.o.below (by exact C.o)) ho (by have:=HF.o.v;omega)).mono ?_;intro e w4 S;obtain⟨rfl,j⟩:=S.go;obtain⟨d,E,b⟩:=M.o _ _ (mr.first (by exact C.o) j) D.o;obtain⟨y0,y1,y2,y3,y4,V⟩:=lB d;obtain⟨z0,z1,z2,z3,z4⟩:=oS d;obtain⟨q,s,u,x,B,-⟩:=lB b.out.1;obtain⟨n0,n1,n2,n3,n4,av⟩:=lB E;clear j S d E f0 f1 U Z;unfold oB at q s u x B;go_wp2_with fail;exact ai (by simp[results,results29,go_sem,q,s,u,x,B]) rfl b.out.2
     .rw[aF ag]at e5;rw[af ag]at i;have D:=gj i;clear i ag;go_wp2_with fail;refine(nu A n l t o r g a 2 0 _ (H1.o.below (by exact C.o)) HF.o (by omega)).mono ?_;rintro e w4 ⟨rfl,j⟩;obtain⟨d,E,b⟩:=M.o _ _ (mr.first (by exact C.o) j) D.o;obtain⟨y0,y1,y2,y3,y4,V⟩:=lB d;obtain⟨z0,z1,z2,z3,z4⟩:=oS d;obtain⟨q,s,u,x,B,-⟩:=lB b.out.1;obtain⟨n0,n1,n2,n3,n4,av⟩:=lB E;clear j d E f0 f1 U Z;unfold oB at q s u x B;go_wp2_with fail;exact ai (by simp[results,results29,go_sem,q,s,u,x,B]) rfl b.out.2
    .rw[aF h2]at e2;rw[af h2]at i;clear h2 e5;by_cases h3:F=3
     .rw[bh h3]at e3;rw[aw h3]at i;have D:=gj i;clear i h3 e4;go_wp2_with fail;refine(CP A n l t o r g a body _ (H1.o.below (by exact C.o)) HF.o (by omega)).mono ?_;rintro e w4 ⟨rfl,j⟩;obtain⟨d,E,b⟩:=M.o _ _ (mr.first (by exact C.o) j) D.o;obtain⟨y0,y1,y2,y3,y4,V⟩:=lB d;obtain⟨z0,z1,z2,z3,z4⟩:=oS d;obtain⟨q,s,u,x,B,-⟩:=lB b.out.1;obtain⟨n0,n1,n2,n3,n4,av⟩:=lB E;clear j d E f0 f1 U Z;unfold oB at q s u x B;go_wp2_with fail;exact ai (by simp[results,results29,go_sem,q,s,u,x,B]) rfl b.out.2
     .rw[aF h3]at e3;rw[af h3]at i;clear h3;by_cases h4:F=4
      .rw[bh h4]at e4;rw[aw h4]at i;have i:=gj i;clear h4;go_wp2_with fail;refine(EZ A n l t o r g a body w3 H3.o HF.o (by omega)).mono ?_;intro e w4 S;obtain⟨b0,m1,m2,s1,n1,q1,s2,n2,q2,rfl,X,b⟩:=S.pass HH.o bD.o bk.o bB.o;rw[<-i.o]at b⊢;obtain⟨q,s,u,x,B,-⟩:=lB b.out.1;obtain⟨y0,y1,y2,y3,y4,bP⟩:=lB X;obtain⟨z0,z1,z2,z3,z4⟩:=oS X;clear S X f0 f1 U Z;unfold oB at q s u x B b;generalize (a.taken frame).2.isSome=bs at *
       go_wp2_with fail;exact ai (by simp[results,results29,go_sem,q,s,u,x,B]) rfl b.out.2
      .rw[aF h4]at e4;rw[af h4]at i;have D:=gj i;clear i h4;go_wp2_with fail;refine(nu A n l t o r g a 6 0 _ (H1.o.below (by exact C.o)) HF.o (by omega)).mono ?_;rintro e w4 ⟨rfl,j⟩;obtain⟨d,E,b⟩:=M.o _ _ (mr.first (by exact C.o) j) D.o;obtain⟨y0,y1,y2,y3,y4,V⟩:=lB d;obtain⟨z0,z1,z2,z3,z4⟩:=oS d;obtain⟨q,s,u,x,B,-⟩:=lB b.out.1;obtain⟨n0,n1,n2,n3,n4,av⟩:=lB E;clear j d E f0 f1 U Z;unfold oB at q s u x B;go_wp2_with fail;exact ai (by simp[results,results29,go_sem,q,s,u,x,B]) rfl b.out.2
 .obtain⟨f,a9⟩:=df.1 am;rw[yw a9]at c3;have cb:((f.1:Int)==0)=false:=ar.2 (by have:=hd f a9;omega);have D:gy (a.taken frame=(a.jM 13,J)):=gj (by unfold iy.taken;rw[aw (by rw[a9];rfl)]);clear am a9 hd;go_wp2_with fail;refine(rp A n l t o r g a 13 w1 H1.o ho (by omega)).mono ?_;intro e w4 S;obtain⟨rfl,j⟩:=S.go;obtain⟨d,E,b⟩:=M.o _ _ j D.o;obtain⟨y0,y1,y2,y3,y4,V⟩:=lB d;obtain⟨z0,z1,z2,z3,z4⟩:=oS d;obtain⟨q,s,u,x,B,-⟩:=lB b.out.1;obtain⟨n0,n1,n2,n3,n4,av⟩:=lB E;clear j S d c3 bl E;unfold oB at q s u x B;go_wp2_with fail;exact ai (by simp[results,results29,go_sem,q,s,u,x,B]) rfl b.out.2
open Go.Shelf
section
variable {w:Q0} {Z:Nat->Obj->Prop} {b W X A:Nat} {K C:Ve} {t o r g ev:Q4} {mb:Nat} {Ms:List Nat} {n:Nat} {l:Vf} {H:gA} {P:Option iM} {p:iM} {a:iy} {maybe:Vg} {ever:Vd} {armed:Bool}
theorem vR(s B:Nat)(frame:gw)(h:nH w b Z W X A K C t o r g ev mb Ms n l H (N p) a maybe ever armed)(d:uG n l s B H (N p) a maybe ever armed)(i:H.dp.ir=false)(j:s<=90000):
  Rg prog 126 #[Q5 (N ⟨W,0,J⟩),Q7 ⟨Rm frame⟩] w fun e w'=>e=Ra (Rh true)/\Az w' b Z W X n l (s+2)/\Q8 b w w':=by
 by_cases m:O frame<=4096
 .obtain⟨-,-,u3,u4,-,-⟩:=d.up i;have q:=E1 A n l t o r g a frame w h.rg u3 (by omega) fun f e=>(u4 f e).1;rcases u:a.taken frame with ⟨a1,_|tk⟩
  .exact JN s B frame h d i j m a1 u q
  .exact JO s B frame h d i j m a1 tk u q
 .have y:(4096:Int)<(O frame:Int):=by omega
  have x:gy (Az w b Z W X n l (s+2)):=gj ⟨_,_,_,_,_,_,_,_,_,_,_,_,_,_,_,_,_,h,d.mono (by omega)⟩;clear h d i;go_enter func126,ntmps126;go_wp2;go_ret;exact⟨rfl,x.o,kz⟩
end
theorem xL(v:Nat)(n:Int)(w:Q0)(E:v<18446744073709551616):
  Rg prog 163 #[I Re (v:Nat),I Y n] w fun e w'=>∃s:gw,e=Ra (Q7 ⟨Rm s⟩)/\Q8 (G (Q w)) w w':=by
 have b:∀(k:Int) (W:Q0),gI (Ro W (Q1 #[I .u8 (k%256)] 5)) (Q6 (N ⟨G (Q W),0,J⟩) 1 1) [byteOf k]:=fun k W=>by rw[<-pJ];exact ow W (byteOf k)
 have d:=gj b;clear b;go_enter func163,ntmps163;go_wp2;go_loopw [0,5,6] (fun x s i wr=>∃(k m:Nat) (y:gw),k<=8/\i=I Y k/\x=I Re (m:Nat)/\m<18446744073709551616/\s=Q7 ⟨Rm y⟩/\O y=k/\Q8 (G (Q w)) w wr) (fun _ _ i _=>8-(intOf i).toNat)
 case atStart=>exact⟨0,v,[],by omega,rfl,rfl,E,rfl,rfl,kz⟩
 case round=>
  obtain⟨k,m,y,hk,rfl,rfl,hm,rfl,q,l⟩:=hrel;by_cases R:k<8
  .have M:(k:Int)<8:=by omega
   have F:=gj q;have r:O y<=8:=by omega
   clear q
   go_wp2_with (first
    | (refine iL rfl (.tmp 13) rfl [byteOf m] (by exact d.o _ _) ?_)
    | (refine lh rfl (.tmp 14) (.tmp 15) rfl [byteOf m] y rfl rfl (by simp;omega) ?_))
   go_roundw
   case rel=>refine⟨k+1,m / 256,byteOf m::y,by omega,by go_num,?_,by omega,rfl,by rw[ao,F.o],(l.alloc l.size _)⟩;congr 1
   case measure=>simp[intOf];omega
  .obtain rfl:k=8:=by omega
   have r:O y<=8:=by omega
   have u:=gj l;clear q l;have j:(y++[byteOf n]).length<=im:=by simp[im];omega
   have B:=gj (fun W=>pB 3 (y++[byteOf n]) W j);clear j
   go_wp2_with (first
    | (refine iL rfl (.tmp 22) rfl [byteOf n] (by exact d.o _ _) ?_)
    | (refine lh rfl (.tmp 19) (.tmp 23) rfl y [byteOf n] rfl rfl (by simp;omega) ?_))
   refine(B.o _).mono ?_;rintro e w2 ⟨rfl,C⟩;have D:gy (Q8 (G (Q w)) w w2):=gj ((u.o.alloc u.o.size _).tn C);go_wp2;go_ret;exact⟨_,rfl,D.o⟩
structure yo where
 kind:Int
 A:Int
 B:Int
 C:Int
 S:gw
 iS:List kv
def zj(x:Int):Prop:=-9223372036854775808<=x/\x<=9223372036854775807
structure yo.mN(q:yo):Prop where
 kind:zj q.kind
 A:zj q.A
 B:zj q.B
 C:zj q.C
 S:O q.S<=140737488354000
 iS:uJ q.iS
 len:O q.iS<=2932031007402
def yo.val(q:yo)(b:Q4):Q4:=Q9 #[I Y q.kind,I Y q.A,I Y q.B,I Y q.C,Q7 ⟨Rm q.S⟩,b]
theorem Ky(x:Int):∃v:Nat,IntKind.u64.wrap x=(v:Int)/\v<18446744073709551616:=by have h:IntKind.u64.wrap x=x%18446744073709551616:=rfl;exact⟨(IntKind.u64.wrap x).toNat,by rw[h];omega,by rw[h];omega⟩
theorem CY{w:Q0}{a b c d e f:Q4}{T:TypeId}(i:w.heap[R]?=N (Q1 #[a,b,c,d,e,f] T (0,0))):Rn w ⟨R,0,J⟩=N a/\Rn w ⟨R,1,J⟩=N b/\Rn w ⟨R,2,J⟩=N c/\Rn w ⟨R,3,J⟩=N d/\Rn w ⟨R,4,J⟩=N e/\Rn w ⟨R,5,J⟩=N f/\R<G (Q w):=
 ⟨gr 0 i,gr 1 i,gr 2 i,gr 3 i,gr 4 i,gr 5 i,gm i⟩
section
variable {w:Q0} {Z:Nat->Obj->Prop} {b W X A:Nat} {K C:Ve} {t o r g ev:Q4} {mb:Nat} {Ms:List Nat} {n:Nat} {l:Vf} {H:gA} {P:Option iM} {p:iM} {a:iy} {maybe:Vg} {ever:Vd} {armed:Bool}
theorem zN(q:yo)(sv:Q4)(h:nH w b Z W X A K C t o r g ev mb Ms n l H P a maybe ever armed)(hq:q.mN)(hO:jE w sv q.iS):
  Rg prog 127 #[Q5 (N ⟨W,0,J⟩),q.val sv] w fun e w'=>∃s:gw,e=Ra (Q7 ⟨Rm s⟩)/\Q8 (G (Q w)) w w':=by
 have bv:=hO;obtain⟨-,sa,sc,rfl,-,-⟩:=bv;unfold yo.val;have ak:Q8 (G (Q w)) w (Ro w (Q1 #[I Y q.kind,I Y q.A,I Y q.B,I Y q.C,Q7 ⟨Rm q.S⟩,Q6 sa (O q.iS) sc] 88)):=(Below.rf w).al _;have D1:=gB w (Q1 #[I Y q.kind,I Y q.A,I Y q.B,I Y q.C,Q7 ⟨Rm q.S⟩,Q6 sa (O q.iS) sc] 88);have HH:=gj (h.below ak);have HO:=gj (gE.below hO ak:jE _ _ q.iS);have u:=gj ak;have HQ:=gj hq;obtain⟨v,hv,bb⟩:=Ky ((a.V:Int)+IntKind.u64.wrap q.A);have bc:=gj bb;go_enter func127,ntmps127;go_upto_region 1 with fail;generalize Ro w (Q1 #[I Y q.kind,I Y q.A,I Y q.B,I Y q.C,Q7 ⟨Rm q.S⟩,Q6 sa (O q.iS) sc] 88)=w1 at *
 obtain⟨D,hD⟩:∃D,D=G (Q w):=⟨_,rfl⟩;rw[<-hD]at D1⊢;obtain⟨d0,d1,d2,d3,d4,d5,j⟩:=CY D1;obtain⟨-,c1,-,-,-,E⟩:=HH.o.cells;have a0:=gr 0 HH.o.rg.row;have M:=gm HH.o.rg.row;clear h ak hO hq bb hD;have bX:im=140737488355000:=rfl;have b0:=HQ.o.S;have m:∀x y:Int,(x==y)=decide (x=y):=fun _ _=>rfl;have e1:=m q.kind (-1);have e2:=m q.kind (-2);have e3:=m q.kind 2;have e4:=m q.kind 3;clear m;by_cases k1:q.kind=-1
 .rw[bh k1]at e1;clear e2 e3 e4 k1;have bA:=gj (fun W'=>xL v q.B W' bc.o);go_upto_region 3 with fail
  go_region_held3 (fun w'=>Rn w' ⟨W,1,J⟩=N (Q5 (N ⟨A,0,J⟩))/\Rn w' ⟨A,0,J⟩=N (I Re (a.V:Nat))/\Rn w' ⟨D,1,J⟩=N (I Y q.A)/\Rn w' ⟨D,2,J⟩=N (I Y q.B))
   (first|exact⟨c1,a0,d1,d2⟩|exact⟨(d.o.cell (p:=⟨W,1,J⟩) E).trans c1,(d.o.cell (p:=⟨A,0,J⟩) M).trans a0,(d.o.cell (p:=⟨D,1,J⟩) j).trans d1,(d.o.cell (p:=⟨D,2,J⟩) j).trans d2⟩)
   (first|(go_at_call 163;refine(bA.o _).mono ?_;rintro e w2 ⟨s,rfl,i⟩;have d:gy (Q8 (G (Q w1)) w1 w2):=gj (by first|exact i|exact(Below.rf w1).drew.tn i);clear i))
  all_goals
   go_wp2;go_ret;exact⟨_,rfl,u.o.tn d.o⟩
 rw[aF k1]at e1;by_cases k2:q.kind=-2
 .rw[bh k2]at e2;clear e3 e4 k1 k2;have br:gy (∀W':Q0,gI (Ro W' (Q1 #[I .u8 (q.A%256)] 5)) (Q6 (N ⟨G (Q W'),0,J⟩) 1 1) [byteOf q.A]):=gj (fun W'=>by rw[<-pJ];exact ow W' (byteOf q.A));have R:=gj (fun W'=>pB 4 ([byteOf q.A]++q.S) W' (by simp;omega))
  go_wp2_with (first
   | (refine iL rfl (.tmp 30) rfl [byteOf q.A] (by exact br.o _) ?_)
   | (refine lh rfl (.tmp 31) (.tmp 33) rfl [byteOf q.A] q.S rfl rfl (by simp;omega) ?_))
  refine(R.o _).mono ?_;rintro e w2 ⟨rfl,i⟩;have d:gy (Q8 (G (Q w)) w w2):=gj ((u.o.alloc u.o.size _).tn i);go_wp2;go_ret;exact⟨_,rfl,d.o⟩
 rw[aF k2]at e2;by_cases k3:q.kind=2
 .rw[bh k3]at e3;clear e4 k1 k2 k3;have bB:=gj (fun W'=>uR q.A 256 W' HQ.o.A.1 HQ.o.A.2 (by decide));have R:=gj (fun k W'=>pB k q.S W' (by omega));go_upto_region 7 with fail
  go_region_held3 (fun w'=>Rn w' ⟨D,1,J⟩=N (I Y q.A)/\Rn w' ⟨D,4,J⟩=N (Q7 ⟨Rm q.S⟩))
   (first|exact⟨d1,d4⟩|exact⟨(d.o.cell (p:=⟨D,1,J⟩) j).trans d1,(d.o.cell (p:=⟨D,4,J⟩) j).trans d4⟩)
   (first
     | (go_at_call 22;refine(bB.o _).mono ?_;rintro e w3 ⟨rfl,rfl⟩)
     | (go_at_call 28;refine(R.o _ _).mono ?_;rintro e w2 ⟨rfl,i⟩;have d:gy (Q8 (G (Q w1)) w1 w2):=gj (by first|exact i|exact(Below.rf w1).drew.tn i);clear i))
  all_goals
   go_wp2;go_ret;exact⟨_,rfl,u.o.tn d.o⟩
 rw[aF k3]at e3;by_cases k4:q.kind=3
 .rw[bh k4]at e4;clear k1 k2 k3 k4;go_wp2;go_ret;exact⟨_,rfl,u.o⟩
 rw[aF k4]at e4;clear k1 k2 k3 k4;obtain⟨s,k,pl,b1,hk,a3⟩:∃(s:gw) (k pl:Nat),O s<=1000/\(k=0\/(0<k/\s=[]))/\∀W',Q8 (G (Q w1)) w1 W'->Rg prog 25 #[Q9 #[I Re (v:Nat),Q6 sa (O q.iS) sc]] W' fun e w'=>e=Ra (Rc #[Q7 ⟨Rm s⟩,Q9 #[I Y (k:Nat),I Y (pl:Nat)]])/\Q8 (G (Q W')) W' w':=by
  cases hw:lF v q.iS with
  | none=>exact⟨tS v q.iS,0,0,by have:=(uO hw).2;omega,.inl rfl,fun W' hW=>BL v _ q.iS W' (gE.below HO.o hW) HQ.o.iS hw⟩
  | some f=>exact⟨[],f.1,f.2,by simp,.inr ⟨by have:=vy hw;omega,rfl⟩,fun W' hW=>CT v _ q.iS W' (gE.below HO.o hW) HQ.o.iS bc.o f hw⟩
 have a4:((k:Int) != 0)=true\/k=0:=hk.elim .inr fun h=>.inl (eB.2 (by omega));have bD:=gj a4;have a5:=gj a3;have R:=gj (fun(x:gw) W' (hx:O x<=140737488354000)=>pB 1 x W' (by omega));clear a3 hk a4;go_upto_region 10 with fail;go_cut [5,6] (fun sx fx wx=>sx=Q7 ⟨Rm s⟩/\∃F,fx=Q5 (N ⟨F,0,J⟩)/\wx.heap[F]?=N (Q1 #[I Y (k:Nat),I Y (pl:Nat)] 31 (0,0))/\Q8 (G (Q w1)) w1 wx)
 case first=>
  have U:Q8 (G (Q w1)) w1 (Ro w1 (Q1 #[I Y 0,I Y 0] 31)).drew:=((Below.rf w1).al _).drew;have hF:(Ro w1 (Q1 #[I Y 0,I Y 0] 31)).drew.heap[G (Q w1)]?=N (Q1 #[I Y 0,I Y 0] 31 (0,0)):=gB w1 _;have HA:=gj (a5.o w1.drew (Below.rf w1).drew);have HB:=gj (a5.o _ U)
  go_region_held3 (fun w'=>Rn w' ⟨W,1,J⟩=N (Q5 (N ⟨A,0,J⟩))/\Rn w' ⟨A,0,J⟩=N (I Re (a.V:Nat))/\Rn w' ⟨D,1,J⟩=N (I Y q.A)/\Rn w' ⟨D,5,J⟩=N (Q6 sa (O q.iS) sc))
   (first|exact⟨c1,a0,d1,d5⟩|exact⟨(U.cell (p:=⟨W,1,J⟩) E).trans c1,(U.cell (p:=⟨A,0,J⟩) M).trans a0,(U.cell (p:=⟨D,1,J⟩) j).trans d1,(U.cell (p:=⟨D,5,J⟩) j).trans d5⟩|exact⟨(d.o.cell (p:=⟨W,1,J⟩) E).trans c1,(d.o.cell (p:=⟨A,0,J⟩) M).trans a0,(d.o.cell (p:=⟨D,1,J⟩) j).trans d1,(d.o.cell (p:=⟨D,5,J⟩) j).trans d5⟩|exact⟨((d.o.al _).cell (p:=⟨W,1,J⟩) E).trans c1,((d.o.al _).cell (p:=⟨A,0,J⟩) M).trans a0,((d.o.al _).cell (p:=⟨D,1,J⟩) j).trans d1,((d.o.al _).cell (p:=⟨D,5,J⟩) j).trans d5⟩|exact⟨(((d.o.setCell (p:=⟨G (Q w1),0,J⟩) gH (I Y (k:Nat))).setCell (p:=⟨G (Q w1),1,J⟩) gH (I Y (pl:Nat))).cell (p:=⟨W,1,J⟩) E).trans c1,(((d.o.setCell (p:=⟨G (Q w1),0,J⟩) gH (I Y (k:Nat))).setCell (p:=⟨G (Q w1),1,J⟩) gH (I Y (pl:Nat))).cell (p:=⟨A,0,J⟩) M).trans a0,(((d.o.setCell (p:=⟨G (Q w1),0,J⟩) gH (I Y (k:Nat))).setCell (p:=⟨G (Q w1),1,J⟩) gH (I Y (pl:Nat))).cell (p:=⟨D,1,J⟩) j).trans d1,(((d.o.setCell (p:=⟨G (Q w1),0,J⟩) gH (I Y (k:Nat))).setCell (p:=⟨G (Q w1),1,J⟩) gH (I Y (pl:Nat))).cell (p:=⟨D,5,J⟩) j).trans d5⟩)
   (first
     | (go_at_call 25;with_reducible refine HA.o.mono ?_;rintro e w2 ⟨rfl,i⟩;have d:gy (Q8 (G (Q w1)) w1 w2):=gj ((Below.rf w1).drew.tn i);clear i)
     | (go_at_call 25;with_reducible refine HB.o.mono ?_;rintro e w2 ⟨rfl,i⟩;have d:gy (Q8 (G (Q w1)) w1 w2):=gj (U.tn i);have am:=gj (oI i hF);obtain⟨p0,p1,bH⟩:=xc am.o;have x0:=gD 0 am.o;have x1:=gD 1 am.o;clear i))
  all_goals
   go_wp2_with fail;go_meet
   first
    | exact⟨rfl,_,rfl,gB w2 _,d.o.al _⟩
    | exact⟨rfl,_,rfl,QN _ _ 1 _ (QN _ _ 0 _ am.o),(d.o.setCell (p:=⟨G (Q w1),0,none⟩) gH (I Y (k:Nat))).setCell (p:=⟨G (Q w1),1,none⟩) gH (I Y (pl:Nat))⟩
 case rest=>
  obtain⟨rfl,F,rfl,hF,a6⟩:=hcut;have bi:=gj (u.o.tn a6);obtain⟨p0,p1,bH⟩:=xc hF;have bI:=(a6.cell (p:=⟨D,4,J⟩) j).trans d4;have bS:=gK bI;clear a6 hF d0 d1 d2 d3 d4 d5 j c1 E a0 M D1;rcases bD.o with a4|rfl
  .go_wp2_with fail;refine(R.o q.S _ HQ.o.S).mono ?_;rintro e w5 ⟨rfl,a7⟩;go_wp2;go_ret;exact⟨_,rfl,bi.o.tn a7⟩
  .go_wp2_with fail;refine(R.o s _ (by omega)).mono ?_;rintro e w5 ⟨rfl,a7⟩;go_wp2;go_ret;exact⟨_,rfl,bi.o.tn a7⟩
end
theorem uG.xV{n:Nat}{l:Vf}{B:Nat}{H:gA}{P:Option iM}{a:iy}{maybe:Vg}{ever:Vd}{armed:Bool}(h:uG n l s B H P a maybe ever armed)(b d fail:Int)(hc:d<=9223372036854775807)(E:fail<=9223372036854775807):
  ∃H' P' j u,(j7 (H.mo b d fail)=(H',.inr (j,0,u))/\P'=J\/∃p,j7 (H.mo b d fail)=(H',.inl p)/\P'=N p/\j=0/\u=0)/\(∀x∈H'.dp.S,x∈ever)/\O H'.dp.S<=120/\
   ((j=12/\1<=u/\0<=fail/\P'=J/\uG n l (s+1) (B+480) H' P' a maybe ever (decide (0<=fail)))\/
    (j=0/\P'.isSome=true/\H'.dp.ir=true/\uG n l (s+1) (B+480) H' P' a maybe ever (decide (0<=fail)))\/
    (j=0/\H'.dp.ir=false/\∃p v T,P'=N p/\p.a=lE v T/\(v,T)∈maybe/\(∀m∈maybe,m.1=v->m=(v,T))/\v<18446744073709551615/\uG n l (s+1) (B+480) {H' with dp:={H'.dp with iF:=[]}} (N p) (lE v T) [(v,T)] ever (decide (0<=fail)))):=by
 have F:=h.evl;have M:=h.B;rcases h.st.xV b d fail hc E with ⟨H',f,h1,o,D,y,q,r⟩|⟨H',p,v,T,h1,o,D,y,q,r⟩
 .refine⟨H',J,12,f,.inl ⟨h1,rfl⟩,r,q.nP.dp.qO.len,.inl ⟨rfl,o,y,rfl,q.mono (by omega) gH fun _ h=>h,fun e=>(by cases e),by omega,by omega⟩⟩
 .have C:O H'.dp.S<=120:=by
   cases i:H'.dp.ir with
   | true=>exact(q i).nP.dp.qO.len
   | false=>exact(r i).nP.dp.qO.len
  refine⟨H',N p,0,0,.inr ⟨p,h1,rfl,rfl,rfl⟩,y,C,?_⟩;cases i:H'.dp.ir with
  | true=>exact .inr (.inl ⟨rfl,rfl,rfl,(q i).mono (by omega) gH fun _ h=>h,fun _ e=>(by rw[i]at e;cases e),by omega,by omega⟩)
  | false=>exact .inr (.inr ⟨rfl,rfl,p,v,T,rfl,D,o,fun m hm e=>h.st.inv.uniq m hm _ o e,(h.st.inv.tabs _ o).v64,((r i).mono (by omega) gH fun _ h=>h).clean,fun _ _=>rfl,by omega,by omega⟩)
def P9(w:Q0)(b:Nat)(Z:Nat->Obj->Prop)(W X n:Nat)(l:Vf)(s:Nat):Prop:=∃A K C t o r g ev mb Ms H P a maybe ever armed B,nH w b Z W X A K C t o r g ev mb Ms n l H P a maybe ever armed/\uG n l s B H P a maybe ever armed
theorem Az.at{w:Q0}{Z:Nat->Obj->Prop}{b W X n:Nat}{l:Vf}(h:Az w b Z W X n l s):P9 w b Z W X n l s:=by obtain⟨A,K,C,t,o,r,g,ev,mb,Ms,H,p,a,maybe,ever,armed,B,h1,d⟩:=h;exact⟨A,K,C,t,o,r,g,ev,mb,Ms,H,N p,a,maybe,ever,armed,B,h1,d⟩
theorem wy(v n:Nat)(l:Vf)(tv b:Q4)(T:Vd)(w:Q0)(q:iD w tv T)(r:gE w b 1 3 [I Y (gY l 0),I Y (gY l 1),I Y (gY l 2)])(i:∀j,(Rl tv=N j\/Rl b=N j)->j<G (Q w))(u:v<18446744073709551615):
  Rg prog 66 #[I Re (v:Nat),tv,I Y (n:Nat),b] w fun e w'=>∃A o,e=Ra (Q5 (N ⟨A,0,J⟩))/\G (Q w)<=A/\jW w' A n l tv o b (Q6 J 0 0) (lE v T)/\(∀j,Rl o=N j->G (Q w)<=j)/\Q8 (G (Q w)) w w':=by
 have d:Q8 (G (Q w)) w (Ro w (Q1 #[I Re (v:Nat),tv,Q6 J 0 0,I Y 0,I Y 0,I Y (n:Nat),b,Rh false,I Re 0,I Y 0,Q6 J 0 0] 53)):=(Below.rf w).alloc gH _;have s:=gB w (Q1 #[I Re (v:Nat),tv,Q6 J 0 0,I Y 0,I Y 0,I Y (n:Nat),b,Rh false,I Re 0,I Y 0,Q6 J 0 0] 53)
 have h1:jW (Ro w (Q1 #[I Re (v:Nat),tv,Q6 J 0 0,I Y 0,I Y 0,I Y (n:Nat),b,Rh false,I Re 0,I Y 0,Q6 J 0 0] 53)) (G (Q w)) n l tv (Q6 J 0 0) b (Q6 J 0 0) ⟨v,T,[],J,J⟩:=
  ⟨s,gE.below q d,nM.nil _ _,gE.below r d,gE.nil _ _ _ _,fun j e=>by simp[Value.ownBlock]at e,⟨fun e=>dt _ (i _ (.inl e)),fun e=>dt _ (i _ (.inr e)),by simp[Value.ownBlock],by simp[Value.ownBlock]⟩,fun j e=>ae (by
    rcases e with e|e|e
    .exact i j (.inl e)
    .exact i j (.inr e)
    .simp[Value.ownBlock]at e) d.size⟩
 obtain⟨-,x,y,rfl,-,-⟩:=q;obtain⟨-,B,rc,rfl,-,-⟩:=r;have H1:=gj h1;have m:=gj d;clear h1 d s;go_enter func66,ntmps66;go_wp2_with fail;refine(nL (G (Q w)) n l _ _ _ _ ⟨v,T,[],J,J⟩ _ H1.o (by simp) (by show v<_;omega)).mono ?_;rintro e w2 ⟨rfl,o',g1,g2,g3,g4⟩;go_wp2;go_ret;refine⟨G (Q w),o',rfl,aq _,g1,fun j e=>(g4 j e).elim (fun e=>by simp[Value.ownBlock]at e) fun e=>by have:=m.o.size;omega,m.o.trans (g3.below m.o.size fun j C e=>?_)⟩;rcases e with e|e
 .omega
 .simp[Value.ownBlock]at e
section
variable {w w':Q0} {Z:Nat->Obj->Prop} {b W X A:Nat} {K C:Ve} {t o r g ev:Q4} {mb:Nat} {Ms:List Nat} {n:Nat} {l:Vf} {H:gA} {P:Option iM} {a:iy} {maybe:Vg} {ever:Vd} {armed:Bool}
theorem nH.mo{u d v:Nat}{T:Vd}{S o':Q4}(h:nH w b Z W X A K C t o r g ev mb Ms n l H P a maybe ever armed)(y:gR (fun j=>j=W) w w')(q:jW w' u n l S o' r (Q6 J 0 0) (lE v T))(hA:G (Q w)<=u)(U:∀j,Rl o'=N j->G (Q w)<=j)(R:∀j,Rl S=N j->C j)(V:w'.heap[W]?=N (Q1 #[Q5 (N ⟨X,0,J⟩),Q5 (N ⟨u,0,J⟩),Q6 (N ⟨d,0,J⟩) 1 1,ev,Rh armed] 58 (0,0)))(E:w'.heap[d]?=N (Q1 #[Q5 (N ⟨u,0,J⟩)] 55 (0,0)))(ag:G (Q w)<=d):
  nH w' b Z W X u (Kn K w w') (fun j=>C j\/j=d) S o' r (Q6 J 0 0) ev d [u] n l H P (lE v T) [(v,T)] ever armed/\Q8 b w w':=by
 obtain⟨n1,n4,n5⟩:=h.ne;have F:=h.x.lt;have al:=h.lt;obtain⟨p1,p2,-⟩:=nh v T;have av:=gm E;refine⟨⟨V,E,rfl,by simp,fun i M m B D=>?_,q,h.x.grow y fun k e=>by rw[e];exact⟨h.kW.1,au h.b2 h.kW.2⟩,h.evo.frame y.size fun j e s=>y.block j s (n5 j e).1,h.evT.frame fun j e s=>y.block j s (n5 j e).1,⟨.inl h.kW.1,h.kW.2⟩,⟨.inr ⟨hA,gm q.row⟩,by omega⟩,fun j e=>.inl (R j e),fun j e=>.inl (h.cr j e),.inr rfl,fun j e=>by simp[Value.ownBlock]at e,fun j e=>⟨.inr ⟨U j e,gS.iA q.out.own j e⟩,by have:=U j e;omega⟩,fun j e=>.inl (h.kev j e),fun j s=>?_,fun k hk=>.inl (h.kb k hk),h.b2,fun j x hz=>⟨.inl (h.z j x hz).1,y.at (fun e=>(h.c j (h.z j x hz).1).2.2.1 e) (h.z j x hz).2⟩⟩,y.below al fun k hk e=>by have:=h.kW.2;have D:k=W:=e;omega⟩
 .match i,B,D with
  | 0,B,D=>simp only[aY,dz]at B D;subst B D;have:=wH.self q (C:=fun j=>C j\/j=d) fun j e=>.inl (R j e);rw[p1,p2]at this;exact⟨this,fun _=>by rw[p1,p2]⟩
  | i+1,B,D=>simp at B
 .rcases s with s|rfl
  .obtain⟨c1,c2,c3,c4,c5⟩:=h.c j s;have:=F j c1;exact⟨.inl c1,fun e=>by omega,c3,fun e=>by have:=U j e;omega,c5⟩
  .refine⟨.inr ⟨ag,av⟩,fun e=>?_,fun e=>?_,fun e=>?_,fun e=>?_⟩
   .rw[e,q.row]at E;simp at E
   .have:=F W h.kW.1;omega
   .exact q.out.typ.ne E (by decide) e
   .have:=F _ (h.kev _ e);omega
theorem nH.aside(h:nH w b Z W X A K C t o r g ev mb Ms n l H P a maybe ever armed)(d:gR (fun j=>j=F) w w')(hF:K F)(u:b<=F)(y:F≠A/\F≠W/\¬C F/\Rl o≠N F/\Rl g≠N F/\Rl ev≠N F):nH w' b Z W X A K C t o r g ev mb Ms n l H P a maybe ever armed/\Q8 b w w':=by
 obtain⟨B,D,q,E,M,n6⟩:=y;refine⟨h.oK d (fun j m e=>q (by have i:j=F:=e;rw[<-i];exact m)) (d.at (fun e=>D (Eq.symm e)) h.row) (h.rg.ext d (fun e=>B (Eq.symm e)) fun j e R=>?_) rfl rfl (h.x.other d (fun j e=>by rw[e];exact hF) fun j e=>by rw[e];exact au h.b2 u) (fun _ e=>e) (h.evo.frame d.size fun j e m=>d.block j m fun i=>n6 (by rw[e,i])) (h.evT.frame fun j e m=>d.block j m fun i=>n6 (by rw[e,i])) (fun _=>.inl) (fun _=>.inl) fun _=>.inl,d.below h.lt fun k hk e=>by have i:k=F:=e;omega⟩;have s:j=F:=R;subst s;rcases e with e|e|e|e
 .exact q (h.ct j e)
 .exact E e
 .exact q (h.cr j e)
 .exact M e
theorem nH.rU(h:nH w b Z W X A K C t o r g ev mb Ms n l H P a maybe ever armed)(hF:G (Q w)<=F):b<=F/\F≠A/\F≠W/\¬C F/\Rl o≠N F/\Rl g≠N F/\Rl ev≠N F:=by have d:=h.x.lt;exact⟨au h.lt hF,fun e=>by have:=d A h.kA.1;omega,fun e=>by have:=d W h.kW.1;omega,fun e=>by have:=d F (h.c F e).1;omega,fun e=>by have:=d F (h.ko F e).1;omega,fun e=>by have:=d F (h.cg F e).1;omega,fun e=>by have:=d F (h.kev F e);omega⟩
end
theorem nA.qT{K:Ve}{w w':Q0}(h:nA K w w'){i:Nat}{v:Q4}(hK:K F)(hc:Rn w ⟨F,i,J⟩=N v):Rn w' ⟨F,i,J⟩=N v:=gR.cell h (p:=⟨F,i,J⟩) (fun e=>e hK) hc
section
variable {w:Q0} {Z:Nat->Obj->Prop} {b W X A:Nat} {K C:Ve} {t o r g ev:Q4} {mb:Nat} {Ms:List Nat} {n:Nat} {l:Vf} {H:gA} {P:Option iM} {a:iy} {maybe:Vg} {ever:Vd} {armed:Bool}
theorem Db(s B:Nat)(q:yo)(sv:Q4)(h:nH w b Z W X A K C t o r g ev mb Ms n l H P a maybe ever armed)(hs:uG n l s B H P a maybe ever armed)(hB:s<=90000)(hq:q.mN)(io:jE w sv q.iS):
  Rg prog 125 #[Q5 (N ⟨W,0,J⟩),q.val sv] w fun e w'=>e=Ra (Rh true)/\P9 w' b Z W X n l (s+1)/\Q8 b w w':=by
 obtain⟨-,sa,sc,rfl,-,-⟩:=io;unfold yo.val;have bX:Q8 (G (Q w)) w (Ro w (Q1 #[I Y q.kind,I Y q.A,I Y q.B,I Y q.C,Q7 ⟨Rm q.S⟩,Q6 sa (O q.iS) sc] 88)):=(Below.rf w).al _;have D1:=gB w (Q1 #[I Y q.kind,I Y q.A,I Y q.B,I Y q.C,Q7 ⟨Rm q.S⟩,Q6 sa (O q.iS) sc] 88);have b1:=gm D1;have d8:=h.grow bX;have d9:=h.rU (aq (G (Q w)));have hX:∀y Kd,pY y Kd X H P->Rg prog 47 #[Q5 (N ⟨X,0,J⟩),I Y q.C,I Y q.A,I Y q.B] y (Mv y Kd X (j7 (H.mo q.C q.A q.B))):=fun y Kd hx=>Ft Kd X H P y q.C q.A q.B hx hs.st.nP (by have:=hs.B;omega) (hs.st.inv.opens q.C q.A q.B) hq.C hq.A.2 hq.B.2;obtain⟨H',P',kf,sf,eb,b2,hr,bA⟩:=hs.xV q.C q.A q.B hq.A.2 hq.B.2;have hR:∀y Kd,pY y Kd X H P->Rg prog 47 #[Q5 (N ⟨X,0,J⟩),I Y q.C,I Y q.A,I Y q.B] y fun e w'=>e=Ra (Q9 #[I Y (kf:Nat),I Y 0,I Y (sf:Nat)])/\pY w' Kd X H' P'/\nA Kd y w':=fun y Kd hx=>(hX y Kd hx).mono fun e w' h6=>by
  rcases eb with ⟨h1,rfl⟩|⟨p,h1,rfl,rfl,rfl⟩
  .rw[h1]at h6;exact⟨h6.1.1,h6.1.2,h6.2⟩
  .rw[h1]at h6;exact⟨h6.1.1,h6.1.2,h6.2⟩
 have HR:=gj hR;have f3:=gj b2;have a8:=gj bA;have hC:=hs.evl;have V:=gj d8;have f4:=gj (bX.mono h.lt);have b3:=gj d9;have HQ:=gj hq;clear h hs hq hX eb b2 bA d8 d9 hR;go_enter func125,ntmps125;go_upto_region 1 with fail;generalize Ro w (Q1 #[I Y q.kind,I Y q.A,I Y q.B,I Y q.C,Q7 ⟨Rm q.S⟩,Q6 sa (O q.iS) sc] 88)=w1 at *
 obtain⟨D,h8⟩:∃D,D=G (Q w):=⟨_,rfl⟩;rw[<-h8]at D1 b1 b3⊢;have aa:gy (Kn K w w1 D):=gj (.inr ⟨by omega,b1⟩);clear bX h8 b1;generalize Kn K w w1=K1 at *
 have b4:=gj D1;obtain⟨d0,d1,d2,d3,d4,d5,am⟩:=CY D1;obtain⟨c0,-,-,-,-,ap⟩:=V.o.cells;clear D1;go_cut [5] (fun ip wx=>∃F K2,ip=Q5 (N ⟨F,0,J⟩)/\wx.heap[F]?=N (Q1 #[I Y (kf:Nat),I Y 0,I Y (sf:Nat)] 34 (0,0))/\wx.heap[D]?=N (Q1 #[I Y q.kind,I Y q.A,I Y q.B,I Y q.C,Q7 ⟨Rm q.S⟩,Q6 sa (O q.iS) sc] 88 (0,0))/\(K2 F/\F≠W)/\(K2 D/\D≠W)/\nH wx b Z W X A K2 C t o r g ev mb Ms n l H' P' a maybe ever armed/\Q8 b w1 wx)
 case first=>
  have ag:Q8 (G (Q w1)) w1 (Ro w1 (Q1 #[I Y 0,I Y 0,I Y 0] 34)).drew:=((Below.rf w1).al _).drew;have hF:(Ro w1 (Q1 #[I Y 0,I Y 0,I Y 0] 34)).drew.heap[G (Q w1)]?=N (Q1 #[I Y 0,I Y 0,I Y 0] 34 (0,0)):=gB w1 _;have b5:=gm hF;have f5:=V.o.rU (aq (G (Q w1)));have ec:=V.o.grow ag;have b6:=gj ec;have b8:=gj f5;have HA:=gj (HR.o w1.drew K1 (V.o.x.below (Below.rf w1).drew));have HB:=gj (HR.o _ _ ec.x);have f6:gy (∀w2,nA K1 w1.drew w2->Rn w2 ⟨W,0,J⟩=N (Q5 (N ⟨X,0,J⟩))/\Rn w2 ⟨D,1,J⟩=N (I Y q.A)/\Rn w2 ⟨D,2,J⟩=N (I Y q.B)/\Rn w2 ⟨D,3,J⟩=N (I Y q.C)):=gj (fun w2 d=>⟨d.qT V.o.kW.1 c0,d.qT aa.o d1,d.qT aa.o d2,d.qT aa.o d3⟩);have f7:gy (∀w2,nA (Kn K1 w1 (Ro w1 (Q1 #[I Y 0,I Y 0,I Y 0] 34)).drew) (Ro w1 (Q1 #[I Y 0,I Y 0,I Y 0] 34)).drew w2->w2.heap[G (Q w1)]?=N (Q1 #[I Y 0,I Y 0,I Y 0] 34 (0,0))/\Rn w2 ⟨W,0,J⟩=N (Q5 (N ⟨X,0,J⟩))/\Rn w2 ⟨D,1,J⟩=N (I Y q.A)/\Rn w2 ⟨D,2,J⟩=N (I Y q.B)/\Rn w2 ⟨D,3,J⟩=N (I Y q.C)):=gj (fun w2 d=>⟨d.at (.inr ⟨aq _,b5⟩) hF,d.qT (.inl V.o.kW.1) ((ag.cell (p:=⟨W,0,J⟩) ap).trans c0),d.qT (.inl aa.o) ((ag.cell (p:=⟨D,1,J⟩) am).trans d1),d.qT (.inl aa.o) ((ag.cell (p:=⟨D,2,J⟩) am).trans d2),d.qT (.inl aa.o) ((ag.cell (p:=⟨D,3,J⟩) am).trans d3)⟩);have e6:G (Q w1)≠W:=b8.o.2.2.1;have e7:G (Q w1)≠D:=fun e=>by rw[e]at am;exact dt _ am
  go_region_held3 (fun w'=>Rn w' ⟨W,0,J⟩=N (Q5 (N ⟨X,0,J⟩))/\Rn w' ⟨D,1,J⟩=N (I Y q.A)/\Rn w' ⟨D,2,J⟩=N (I Y q.B)/\Rn w' ⟨D,3,J⟩=N (I Y q.C))
   (first|exact⟨c0,d1,d2,d3⟩|exact⟨(ag.cell (p:=⟨W,0,J⟩) ap).trans c0,(ag.cell (p:=⟨D,1,J⟩) am).trans d1,(ag.cell (p:=⟨D,2,J⟩) am).trans d2,(ag.cell (p:=⟨D,3,J⟩) am).trans d3⟩|exact⟨y0,y1,y2,y3⟩|exact⟨iK _ y0,iK _ y1,iK _ y2,iK _ y3⟩|go_keep)
   (first
     | (go_at_call 47;with_reducible refine HA.o.mono ?_;rintro e w2 ⟨rfl,a9,d⟩;have b9:=gj a9;have ba:=gj d;obtain⟨y0,y1,y2,y3⟩:=f6.o w2 d;clear a9 d)
     | (go_at_call 47;with_reducible refine HB.o.mono ?_;rintro e w2 ⟨rfl,a9,d⟩;have b9:=gj a9;have ba:=gj d;obtain⟨av,y0,y1,y2,y3⟩:=f7.o w2 d;have f8:=gj av;have p0:=gr 0 av;have p1:=gr 1 av;have p2:=gr 2 av;have x0:=gD 0 av;have x1:=gD 1 av;have x2:=gD 2 av;have bb:=gm av;clear av a9 d))
  .go_wp2_with fail;go_meet;have hk:nA K1 w1 w2:=(gR.gO ((Below.rf w1).drew)).trans ba.o;have h2:=V.o.kQ hk b9.o;have bB:Q8 (G (Q w2)) w2 (Ro w2 (Q1 #[I Y (kf:Nat),I Y 0,I Y (sf:Nat)] 34)):=(Below.rf w2).al _;exact⟨G (Q w2),_,rfl,gB w2 _,gP w2 _ (hk.at aa.o b4.o),⟨.inr ⟨aq _,gm (gB w2 _)⟩,(h2.rU gH).2.2.1⟩,⟨.inl aa.o,b3.o.2.2.1⟩,h2.grow bB,(hk.below V.o.lt V.o.kb).trans (bB.mono h2.lt)⟩
  .go_wp2_with fail;go_meet;have h2:=b6.o.kQ ba.o b9.o;have ed:gR (fun j=>j=G (Q w1)) w2 (((Rp w2 ⟨G (Q w1),0,J⟩ (I Y (kf:Nat))).setCell ⟨G (Q w1),1,J⟩ (I Y 0)).setCell ⟨G (Q w1),2,J⟩ (I Y (sf:Nat))):=(((gR.refl (fun j=>j=G (Q w1)) w2).setCell ⟨G (Q w1),0,J⟩ _ (.inl rfl)).setCell ⟨G (Q w1),1,J⟩ _ (.inl rfl)).setCell ⟨G (Q w1),2,J⟩ _ (.inl rfl);obtain⟨h3,bB⟩:=h2.aside ed (.inr ⟨aq _,b5⟩) b8.o.1 b8.o.2;exact⟨G (Q w1),_,rfl,QN _ _ 2 _ (QN _ _ 1 _ (QN _ _ 0 _ f8.o)),ed.at (fun e=>e7 (Eq.symm e)) (ba.o.at (.inl aa.o) (gC ag am b4.o)),⟨.inr ⟨aq _,b5⟩,e6⟩,⟨.inl aa.o,b3.o.2.2.1⟩,h3,((ag.mono V.o.lt).trans (ba.o.below b6.o.lt b6.o.kb)).trans bB⟩
 case rest=>
  obtain⟨F,K2,rfl,hF,h8,⟨hD,f9⟩,⟨hE,hG⟩,hw,ic⟩:=hcut;have gb:=gj (f4.o.trans ic);have z4:=gD 4 hw.row;obtain⟨-,-,-,-,c4,br⟩:=hw.cells;have h7:=gr 2 h8;have fg:=gm h8;have cb:∀bv,nH (Rp wc ⟨W,4,J⟩ (Rh bv)) b Z W X A K2 C t o r g ev mb Ms n l H' P' a maybe ever bv/\Q8 b wc (Rp wc ⟨W,4,J⟩ (Rh bv)):=fun bv=>hw.arm bv;have eg:∀bv:Bool,(Rp wc ⟨W,4,J⟩ (Rh bv)).heap[F]?=N (Q1 #[I Y (kf:Nat),I Y 0,I Y (sf:Nat)] 34 (0,0)):=fun bv=>(Below.heap_setCell wc ⟨W,4,J⟩ _ F f9).trans hF;have h3:=cb (decide (0<=q.B));have a2:=eg (decide (0<=q.B));clear ic hF h8 hw cb eg HR V b4 aa d0 d1 d2 d3 d4 d5 am c0 ap;go_upto_region 3 with fail;generalize Rp wc ⟨W,4,J⟩ (Rh (decide (0<=q.B)))=w3 at *
  have u:=gj h3.1;have cc:=gj (gb.o.trans h3.2);have gc:=gj a2;obtain⟨c0,-,-,-,c4,ap⟩:=h3.1.cells;have f0:=gr 0 a2;have f1:=gr 1 a2;have f2:=gr 2 a2;have bb:=gm a2;have aE:=gj (fun y (hW:Q8 (G (Q w3)) w3 y)=>pF K2 X H' P' y (h3.1.x.below hW));have cd:=gj (yV h3.1 f3.o (by omega) (by omega));clear h3 a2 z4 h7 fg br;rcases hdd:H'.dp.ir with _|_
  case true=>
   rw[hdd]at aE;obtain⟨Bx,ej⟩:∃Bx,uG n l (s+1) Bx H' P' a maybe ever (decide (0<=q.B)):=by
    rcases a8.o with ⟨-,-,-,-,h5⟩|⟨-,-,-,h5⟩|⟨-,h5,-⟩
    .exact⟨_,h5⟩
    .exact⟨_,h5⟩
    .rw[hdd]at h5;cases h5
   have ce:=gj ej;clear ej hdd a8;go_wp2_with fail;refine(aE.o _ (Below.rf _)).mono ?_;rintro e w4 ⟨rfl,rfl⟩;go_wp2_with fail;refine cd.o.mono ?_;rintro e w5 ⟨rfl,U⟩;have H5:=gj (u.o.below U);have ci:=gj (cc.o.trans (U.mono u.o.lt));have bw:=gj (aE.o w5 U);clear U c0 c4 ap f0 f1 f2 bb;obtain⟨c0,-,-,-,-,ap⟩:=H5.o.cells;go_wp2_with fail;refine bw.o.mono ?_;rintro e w6 ⟨rfl,rfl⟩;go_wp2;go_ret;exact⟨rfl,⟨_,_,_,_,_,_,_,_,_,_,_,_,_,_,_,_,_,H5.o,ce.o⟩,ci.o⟩
  rw[hdd]at aE;rcases a8.o with ⟨q1,q2,q3,q4,q5⟩|⟨-,-,q3,-⟩|⟨q1,-,p,v,T,q2,q3,q4,q5,q6,q7⟩
  .subst q4;have gl:((kf:Int) != 0)=true:=by rw[q1];rfl
   have hy:((kf:Int)==12)=true:=by rw[q1];rfl
   have hH:(0:Int)<(sf:Int):=by omega
   rw[bh q3]at c4;have cm:=gj (fun y (hW:Q8 (G (Q w3)) w3 y)=>yl K2 X H' J y (u.o.x.below hW));have ce:=gj q5;clear q1 q2 q3 q5 a8 hdd;go_wp2_with fail;refine(aE.o _ (Below.rf _)).mono ?_;rintro e w4 ⟨rfl,rfl⟩;go_wp2_with fail;refine cd.o.mono ?_;rintro e w5 ⟨rfl,U⟩;have H5:=gj (u.o.below U);have ci:=gj (cc.o.trans (U.mono u.o.lt));have bw:=gj (aE.o w5 U);have fl:=gj (cm.o w5 U);have bi:=oI U gc.o;have hI:=(U.cell (p:=⟨W,4,J⟩) ap).trans c4;clear U c0 c4 ap f0 f1 f2 bb;obtain⟨c0,-,-,-,-,ap⟩:=H5.o.cells;have f0:=gr 0 bi;have f1:=gr 1 bi;have f2:=gr 2 bi;have bb:=gm bi;clear bi;go_wp2_with fail;refine bw.o.mono ?_;rintro e w6 ⟨rfl,rfl⟩;go_wp2_with fail;refine fl.o.mono ?_;rintro e R ⟨rfl,rfl⟩;go_wp2;go_ret;exact⟨rfl,⟨_,_,_,_,_,_,_,_,_,_,_,_,_,_,_,_,_,H5.o,ce.o⟩,ci.o⟩
  .rw[hdd]at q3;cases q3
  .subst q2;have gl:((kf:Int) != 0)=false:=by rw[q1];rfl
   obtain⟨el,gn,go⟩:=nh v T;have em:=gj (fun y (hW:Q8 (G (Q w3)) w3 y)=>ym K2 X H' p y (u.o.x.below hW));rw[q3,el]at em;have cm:=gj (fun y (hW:Q8 (G (Q w3)) w3 y)=>yl K2 X H' (N p) y (u.o.x.below hW));have hJ:=gj q3;have en:=gj q4;have eo:=gj q5;have er:=gj q7;have gp:=q6;clear q1 q3 q4 q5 q7 a8 cd el gn go;go_wp2_with fail;refine(aE.o _ (Below.rf _)).mono ?_;rintro e w4 ⟨rfl,rfl⟩;go_wp2_with fail;refine(cm.o _ (Below.rf _)).mono ?_;rintro e w5 ⟨rfl,rfl⟩;go_wp2_with fail;refine(em.o _ (Below.rf _)).mono ?_;rintro e w6 ⟨rfl,rfl⟩;clear f0 f1 f2 bb;go_wp2_with fail;go_loopw [9] (fun i wr=>∃k:Nat,k<=O Ms/\i=I Y (k:Int)/\wr=w6/\∀(j:Nat) m,j<k->maybe[j]?=N m->m.1≠v) (fun i _=>O Ms-(intOf i).toNat)
   case atStart=>exact⟨0,aJ _,rfl,rfl,fun j m ib=>absurd ib (Nat.not_lt_zero _)⟩
   case round=>
    obtain⟨k,hk,rfl,rfl,bk⟩:=hrel;have hL:=u.o.len;have hM:=u.o.two;by_cases gq:k<O Ms
    .have hz:(k:Int)<(O Ms:Int):=by omega
     obtain⟨M,ia⟩:∃M,Ms[k]?=N M:=⟨_,ah gq⟩;obtain⟨m,hm⟩:∃m,maybe[k]?=N m:=⟨_,ah (by omega)⟩;have co:=(u.o.mem k M m ia hm).1;have gs:M≠W:=co.1.elim (fun e=>(u.o.c M e).2.2.1) fun e h7=>u.o.ne.1 (by rw[<-h7,e]);obtain⟨-,tM,x2,x3,x4,x7,x8,x9,hN,a0,bD,cp⟩:=co;obtain⟨-,ta,tc,rfl,-,-⟩:=id bD;have bE:=u.o.rg.room;obtain⟨-,ra,rc,rfl,-,-⟩:=id bE;have ii:Rn wr ⟨mb,k,J⟩=N (Q5 (N ⟨M,0,J⟩)):=(aP _ _ k _ _ _ u.o.mbr).trans (by simp[BF,ia]);have r0:=gr 0 a0;have r1:=gr 1 a0;have r5:=gr 5 a0;have r6:=gr 6 a0;have bH:=gm a0;have gu:=gK ii;have c2:=u.o.cells.2.2.1;have gv:=gj bD;have cq:=gj cp;have gx:=gj bk;have HM:=gj ia;have gz:=gj bE;by_cases hv:m.1=v
     .have g0:m=(v,T):=eo.o m (be hm) hv;subst g0;have cs:∀j,((Q6 ta (O T) tc).ownBlock=N j\/(Q6 ra 3 rc).ownBlock=N j)->j<G (Q wr):=fun j e=>u.o.x.lt j (e.elim (fun e=>(u.o.c j (cq.o j e)).1) fun e=>(u.o.c j (u.o.cr j e)).1);have g2:=gj (wy v n l (Q6 ta (O T) tc) (Q6 ra 3 rc) T wr.drew (gE.below gv.o (Below.rf wr).drew) (gE.below gz.o (Below.rf wr).drew) cs gp);have ct:=u.o.row;have cu:M≠W:=gs;clear bk bD cp ia hm hv a0 bE cs gx en eo;have g3:gy (∀R,Q8 wr.drew.heap.size wr.drew R->R.heap[W]?=N (Q1 #[Q5 (N ⟨X,0,J⟩),Q5 (N ⟨A,0,J⟩),Q6 (N ⟨mb,0,J⟩) (O Ms) (O Ms),ev,Rh (decide (0<=q.B))] 58 (0,0))/\(Rn R ⟨M,1,J⟩=N (Q6 ta (O T) tc)/\Rn R ⟨M,5,J⟩=N (I Y n)/\Rn R ⟨M,6,J⟩=N (Q6 ra 3 rc))/\∀x,(Rp R ⟨W,1,J⟩ x).cell? ⟨M,1,J⟩=N (Q6 ta (O T) tc)/\(Rp R ⟨W,1,J⟩ x).cell? ⟨M,5,J⟩=N (I Y n)/\(Rp R ⟨W,1,J⟩ x).cell? ⟨M,6,J⟩=N (Q6 ra 3 rc)):=gj (fun R ak=>by have g1:=(ak.cell (p:=⟨M,1,J⟩) bH).trans r1;have g5:=(ak.cell (p:=⟨M,5,J⟩) bH).trans r5;have g6:=(ak.cell (p:=⟨M,6,J⟩) bH).trans r6;have hx:∀x,gR (fun j=>j=W) R (Rp R ⟨W,1,J⟩ x):=fun x=>(gR.refl (fun j=>j=W) R).setCell ⟨W,1,J⟩ x (.inl rfl);exact⟨gC ak (gm ct) ct,⟨g1,g5,g6⟩,fun x=>⟨(hx x).cell (p:=⟨M,1,J⟩) cu g1,(hx x).cell (p:=⟨M,5,J⟩) cu g5,(hx x).cell (p:=⟨M,6,J⟩) cu g6⟩⟩);go_upto_region 15 with fail
      go_region_held3 (fun w'=>Rn w' ⟨M,1,J⟩=N (Q6 ta (O T) tc)/\Rn w' ⟨M,5,J⟩=N (I Y n)/\Rn w' ⟨M,6,J⟩=N (Q6 ra 3 rc))
       (first|exact⟨r1,r5,r6⟩|exact eD|exact eS _)
       (first|(go_at_call 66;with_reducible refine g2.o.mono ?_;rintro e R ⟨A',o',rfl,eT,cv,eV,ak⟩;obtain⟨bn,eD,eS⟩:=g3.o R ak;have g4:=gr 1 bn;have g7:=gD 1 bn;have g8:=gm bn;have g9:=gj bn;have hb:=gj cv;have e0:=gj eV;have hd:=gj ak;clear bn cv eV ak))
      all_goals
       have ak:Q8 (G (Q wr)) wr R:=(Below.rf wr).drew.tn hd.o;have hO:=gm u.o.row;have e1:A'≠W:=fun e=>by have h7:G (Q wr)<=A':=eT;omega
       have cB:∀j,((Q6 ta (O T) tc).ownBlock=N j\/Rl o'=N j\/(Q6 ra 3 rc).ownBlock=N j\/(Q6 J 0 0).ownBlock=N j)->¬j=W:=fun j e h7=>by
        rcases e with e|e|e|e
        .exact(u.o.c j (cq.o j e)).2.2.1 h7
        .have iv:G (Q wr)<=j:=e0.o j e;omega
        .exact(u.o.c j (u.o.cr j e)).2.2.1 h7
        .simp[Value.ownBlock]at e
       have bx:gR (fun j=>j=W) R (Rp R ⟨W,1,J⟩ (Q5 (N ⟨A',0,J⟩))):=(gR.refl (fun j=>j=W) R).setCell ⟨W,1,J⟩ _ (.inl rfl);have c3:gR (fun j=>j=W) wr (Rp R ⟨W,1,J⟩ (Q5 (N ⟨A',0,J⟩))):=(gR.gO ak).trans bx;have c5:=hb.o.ext bx e1 cB;have a3:=QN _ _ 1 (Q5 (N ⟨A',0,J⟩)) g9.o;generalize Rp R ⟨W,1,J⟩ (Q5 (N ⟨A',0,J⟩))=w8 at *
       obtain⟨s1,s2,s3⟩:=vk (E:=55) a3 (Q6 (N ⟨G (Q w8),0,J⟩) 1 1) #[Q5 (N ⟨A',0,J⟩)];obtain⟨h9,e2⟩:=u.o.mo (c3.trans s1) (c5.ext s1 e1 cB) eT e0.o cq.o s2 s3 c3.size;have c1:=gr 1 a3;have hh:=gr 2 a3;have z2:=gD 2 a3;have hi:=gm a3;have H9:=gj h9;have hj:=gj (cc.o.trans e2);clear eD eS g4 g7 g8 ak bx c3 c5 a3 s1 s2 s3 h9 e2 cB ii r0 r1 r5 r6 bH gu c2 ct;go_upto_region 17 with fail;generalize (Rp w8 ⟨W,2,J⟩ (Q6 (N ⟨G (Q w8),0,J⟩) 1 1)).alloc (Q1 #[Q5 (N ⟨A',0,J⟩)] 55)=w9 at *
       clear c1 hh z2 hi;obtain⟨hl,-,-,-,-,br⟩:=H9.o.cells;go_wp2_with fail;refine(vA _ X H' (N p) w9 H9.o.x).mono ?_;rintro e hP ⟨lv,rfl,hn,c7,bz⟩;have ho:=gj (H9.o.kQ bz c7);have fp:=gj (hj.o.trans (bz.below H9.o.lt H9.o.kb));clear hn c7 bz hl br;go_wp2_with fail;refine(Cj (s+1) _ ho.o er.o (by exact hdd)).mono ?_;rintro e e3 ⟨rfl,e4,c8⟩;have c9:P9 e3 b Z W X n l (s+1)/\Q8 b w e3:=⟨⟨_,_,_,_,_,_,_,_,_,_,_,_,_,_,_,_,_,e4,er.o⟩,fp.o.trans c8⟩;have fr:=gj c9;clear e4 c8 c9;go_wp2;go_ret;exact⟨rfl,fr.o⟩
     .have hQ:((m.1:Int)==(v:Int))=false:=ar.2 (by omega);have da:∀(j:Nat) m',j<k+1->maybe[j]?=N m'->m'.1≠v:=fun j m' ib e=>by
       by_cases hp:j<k
       .exact bk j m' hp e
       .obtain rfl:j=k:=by omega
        rw[hm]at e;cases e;exact hv
      have fx:=gj da;clear bk da bD cp ia hm hv a0 bE;go_wp2;go_roundw
      case rel=>exact⟨k+1,by omega,by go_num,cK,fx.o⟩
      case measure=>simp[intOf];omega
    .exfalso;obtain⟨j,ib,he⟩:=cZ en.o;exact bk j (v,T) (by omega) (by rw[ah ib,he]) rfl
end
theorem Jy(q off r:Nat)(S:Vd)(s:gw)(w:Q0)(h:jt w q off r S)(j:O s<=im):
  Rg prog 195 #[Q5 (N ⟨q,off,J⟩),Q7 ⟨Rm s⟩] w fun e w'=>e=Ra (E6 s S)/\Q8 (G (Q w)) w w':=by
 by_cases i:O s=4
 .obtain⟨a,b,c,d,rfl⟩:=Ak i;exact LG q off r S a b c d w h
 .have e:E6 s S=qj J:=by
   unfold E6;split
   .exact absurd rfl i
   .rfl
  rw[e];exact G8 q off r S s w h j i
theorem N7(K:Ve)(X:Nat)(H:gA)(p:iM)(s:gw)(w:Q0)(h:pY w K X H (N p)):
  Rg prog 165 #[Q5 (N ⟨X,0,J⟩),Q7 ⟨Rm s⟩] w fun e w'=>e=Ra (yI s p.a.T)/\Q8 (G (Q w)) w w':=by
 obtain⟨⟨D,u,-⟩,-⟩:=h;obtain⟨h,a,E,h1,-,⟨F,d,i,x,hm,-⟩,-⟩:=u.Lp;have c1:=gr 1 h1;have B:=gm h1;have j:=hm.ag.row;unfold AV.cells at j;have r0:=gr 0 j;have C:=gm j;have l:=gj (OK a 0 x.r p.a.T s w ⟨r0,hm.ag.jh⟩);obtain⟨y,b,m⟩:=Bu s p.a.T;rw[m]at l⊢;clear h1 hm j m;go_enter func165,ntmps165;go_wp2_with fail;refine l.o.mono ?_;rintro e w2 ⟨rfl,q⟩;clear c1 r0 l;go_wp2;go_ret2;exact⟨rfl,q⟩
theorem JU(K:Ve)(X:Nat)(H:gA)(p:iM)(s:gw)(w:Q0)(h:pY w K X H (N p))(u:O s<=im):
  Rg prog 167 #[Q5 (N ⟨X,0,J⟩),Q7 ⟨Rm s⟩] w fun e w'=>e=Ra (E6 s p.a.T)/\Q8 (G (Q w)) w w':=by
 obtain⟨⟨E,B,-⟩,-⟩:=h;obtain⟨h,a,M,h1,-,⟨F,d,i,x,hm,-⟩,-⟩:=B.Lp;have c1:=gr 1 h1;have C:=gm h1;have j:=hm.ag.row;unfold AV.cells at j;have r0:=gr 0 j;have D:=gm j;have l:=gj (Jy a 0 x.r p.a.T s w ⟨r0,hm.ag.jh⟩ u);obtain⟨y,b,m⟩:=BT s p.a.T;rw[m]at l⊢;clear h1 hm j m;go_enter func167,ntmps167;go_wp2_with fail;refine l.o.mono ?_;rintro e w2 ⟨rfl,q⟩;clear c1 r0 l;go_wp2;go_ret2;exact⟨rfl,q⟩
theorem N5(K:Ve)(X:Nat)(H:gA)(p:iM)(k:Int)(w:Q0)(h:pY w K X H (N p))(u:O p.a.T<=1000000000)(m:Ac p.a.T):
  Rg prog 169 #[Q5 (N ⟨X,0,J⟩),I Y k] w fun e w'=>e=Ra (wJ k p.a.T)/\Q8 (G (Q w)) w w':=by
 obtain⟨⟨E,B,-⟩,-⟩:=h;obtain⟨h,a,M,h1,-,⟨F,d,i,x,hm,-⟩,-⟩:=B.Lp;have c1:=gr 1 h1;have C:=gm h1;have j:=hm.ag.row;unfold AV.cells at j;have r0:=gr 0 j;have D:=gm j;have l:=gj (Oh a 0 x.r p.a.T k w ⟨r0,hm.ag.jh⟩ u m);obtain⟨y,b,q⟩:=AA k p.a.T;rw[q]at l⊢;clear h1 hm j q m;go_enter func169,ntmps169;go_wp2_with fail;refine l.o.mono ?_;rintro e w2 ⟨rfl,s⟩;clear c1 r0 l;go_wp2;go_ret2;exact⟨rfl,s⟩
section
variable {w:Q0} {Z:Nat->Obj->Prop} {b W X A:Nat} {K C:Ve} {t o r g ev:Q4} {mb:Nat} {Ms:List Nat} {n:Nat} {l:Vf} {H:gA} {p:iM} {a:iy} {maybe:Vg} {ever:Vd} {armed:Bool}
theorem Mg(s B:Nat)(q:yo)(sv:Q4)(h:nH w b Z W X A K C t o r g ev mb Ms n l H (N p) a maybe ever armed)(hs:uG n l s B H (N p) a maybe ever armed)(hd:H.dp.ir=false)(hq:q.mN)(hO:jE w sv q.iS):
  Rg prog 130 #[Q5 (N ⟨W,0,J⟩),q.val sv] w fun e w'=>e=Ra (Rh true)/\Az w' b Z W X n l s/\Q8 b w w':=by
 obtain⟨-,sa,sc,rfl,-,-⟩:=hO;unfold yo.val;have a4:Q8 (G (Q w)) w (Ro w (Q1 #[I Y q.kind,I Y q.A,I Y q.B,I Y q.C,Q7 ⟨Rm q.S⟩,Q6 sa (O q.iS) sc] 88)):=(Below.rf w).al _;have D1:=gB w (Q1 #[I Y q.kind,I Y q.A,I Y q.B,I Y q.C,Q7 ⟨Rm q.S⟩,Q6 sa (O q.iS) sc] 88);obtain⟨u1,-,-,-,-,u6⟩:=hs.up hd;have hG:=(⟨u6.len,u6.sorted,u6.mH⟩:lG 120 a.T).look (by omega);have HG:=gj hG;have i:=gj (h.below a4);have bk:=gj (a4.mono h.lt);have HS:=gj hs;have HQ:=gj hq;have ak:=gj (Cj s B (h.below a4) hs hd);have bL:(140737488354000:Nat)<=im:=by decide
 have bM:=hq.S;have am:∀x y:Int,(x==y)=decide (x=y):=fun _ _=>rfl;have e1:=am q.kind 6;have e2:=am q.kind 7;have e3:=am q.kind 8;clear h hs hd hq am u6 hG;go_enter func130,ntmps130;go_upto_region 1 with fail;generalize Ro w (Q1 #[I Y q.kind,I Y q.A,I Y q.B,I Y q.C,Q7 ⟨Rm q.S⟩,Q6 sa (O q.iS) sc] 88)=w1 at *
 obtain⟨D,hD⟩:∃D,D=G (Q w):=⟨_,rfl⟩;rw[<-hD]at D1⊢;clear a4 hD;have ap:gy (∀w2,Q8 (G (Q w1)) w1 w2->Az w2 b Z W X n l s/\Q8 b w w2):=gj (fun w2 m=>⟨⟨_,_,_,_,_,_,_,_,_,_,_,_,_,_,_,_,_,i.o.below m,HS.o⟩,bk.o.trans (m.mono i.o.lt)⟩);have R:gy (∀w2,Q8 (G (Q w1)) w1 w2->Rn w2 ⟨W,1,J⟩=N (Q5 (N ⟨A,0,J⟩))/\Rn w2 ⟨A,1,J⟩=N t/\Rn w2 ⟨D,4,J⟩=N (Q7 ⟨Rm q.S⟩)/\Rn w2 ⟨D,1,J⟩=N (I Y q.A)):=gj (fun w2 m=>⟨(m.cell (p:=⟨W,1,J⟩) (gm i.o.row)).trans i.o.cells.2.1,(m.cell (p:=⟨A,1,J⟩) (gm i.o.rg.row)).trans (gr 1 i.o.rg.row),(m.cell (p:=⟨D,4,J⟩) (gm D1)).trans (CY D1).2.2.2.2.1,(m.cell (p:=⟨D,1,J⟩) (gm D1)).trans (CY D1).2.1⟩);obtain⟨d0,d1,d2,d3,d4,d5,U⟩:=CY D1;obtain⟨c0,c1,-,-,-,V⟩:=i.o.cells;obtain⟨-,ta,tc,rfl,-,-⟩:=i.o.rg.T;clear D1;by_cases k6:q.kind=6
 .rw[bh k6]at e1;clear e2 e3 k6 ak;obtain⟨y,bb,hv⟩:=Bu q.S a.T;have u:=gj (N7 K X H p q.S w1.drew (i.o.x.below (Below.rf w1).drew));have E:=gj (fun w2 (m:Q8 (G (Q w1)) w1 w2)=>Ju (Q6 ta (O a.T) tc) a.T q.S w2.drew (gE.below (gE.below i.o.rg.T m) (Below.rf w2).drew) HG.o.len);rw[u1,hv]at u;rw[hv]at E;clear hv;go_upto_region 3 with fail
  go_region_held3 (fun w'=>Rn w' ⟨W,0,J⟩=N (Q5 (N ⟨X,0,J⟩))/\Rn w' ⟨D,4,J⟩=N (Q7 ⟨Rm q.S⟩))
   (first|exact⟨c0,d4⟩|exact⟨y0,y1⟩)
   (first|(go_at_call 165;with_reducible refine u.o.mono ?_;rintro e w2 ⟨rfl,j⟩;have d:gy (Q8 (G (Q w1)) w1 w2):=gj ((Below.rf w1).drew.tn j);have y0:=(d.o.cell (p:=⟨W,0,J⟩) V).trans c0;have y1:=(d.o.cell (p:=⟨D,4,J⟩) U).trans d4;clear j))
  all_goals
   obtain⟨m1,m2,m3,m4⟩:=R.o w2 d.o;have bl:=gK m1;have bn:=gK m2;have bo:=gK m3;have ag:=gj (E.o w2 d.o);clear y0 y1 c0 c1 d0 d1 d2 d3 d4 d5 U V;go_upto_region 4 with fail
   go_region_held3 (fun w'=>Rn w' ⟨W,1,J⟩=N (Q5 (N ⟨A,0,J⟩))/\Rn w' ⟨A,1,J⟩=N (Q6 ta (O a.T) tc)/\Rn w' ⟨D,4,J⟩=N (Q7 ⟨Rm q.S⟩)/\Rn w' ⟨D,1,J⟩=N (I Y q.A))
    (first|exact⟨m1,m2,m3,m4⟩|exact hz)
    (first|(go_at_call 166;with_reducible refine ag.o.mono ?_;rintro e w3 ⟨rfl,F⟩;have M:gy (Q8 (G (Q w1)) w1 w3):=gj (d.o.tn ((Below.rf w2).drew.tn F));have hz:=R.o w3 M.o;clear F))
   all_goals
    go_wp2;go_ret;exact⟨by simp,ap.o w3 M.o⟩
 rw[aF k6]at e1;by_cases k7:q.kind=7
 .rw[bh k7]at e2;clear e3 k6 k7 ak;obtain⟨y,bb,hv⟩:=BT q.S a.T;have u:=gj (JU K X H p q.S w1.drew (i.o.x.below (Below.rf w1).drew) (by omega));have E:=gj (fun w2 (m:Q8 (G (Q w1)) w1 w2)=>CU (Q6 ta (O a.T) tc) a.T q.S w2.drew (gE.below (gE.below i.o.rg.T m) (Below.rf w2).drew) HG.o.len HG.o.sorted HG.o.routes (by omega));rw[u1,hv]at u;rw[hv]at E;clear hv;go_upto_region 7 with fail
  go_region_held3 (fun w'=>Rn w' ⟨W,0,J⟩=N (Q5 (N ⟨X,0,J⟩))/\Rn w' ⟨D,4,J⟩=N (Q7 ⟨Rm q.S⟩))
   (first|exact⟨c0,d4⟩|exact⟨y0,y1⟩)
   (first|(go_at_call 167;with_reducible refine u.o.mono ?_;rintro e w2 ⟨rfl,j⟩;have d:gy (Q8 (G (Q w1)) w1 w2):=gj ((Below.rf w1).drew.tn j);have y0:=(d.o.cell (p:=⟨W,0,J⟩) V).trans c0;have y1:=(d.o.cell (p:=⟨D,4,J⟩) U).trans d4;clear j))
  all_goals
   obtain⟨m1,m2,m3,m4⟩:=R.o w2 d.o;have bl:=gK m1;have bn:=gK m2;have bo:=gK m3;have ag:=gj (E.o w2 d.o);clear y0 y1 c0 c1 d0 d1 d2 d3 d4 d5 U V;go_upto_region 8 with fail
   go_region_held3 (fun w'=>Rn w' ⟨W,1,J⟩=N (Q5 (N ⟨A,0,J⟩))/\Rn w' ⟨A,1,J⟩=N (Q6 ta (O a.T) tc)/\Rn w' ⟨D,4,J⟩=N (Q7 ⟨Rm q.S⟩)/\Rn w' ⟨D,1,J⟩=N (I Y q.A))
    (first|exact⟨m1,m2,m3,m4⟩|exact hz)
    (first|(go_at_call 168;with_reducible refine ag.o.mono ?_;rintro e w3 ⟨rfl,F⟩;have M:gy (Q8 (G (Q w1)) w1 w3):=gj (d.o.tn ((Below.rf w2).drew.tn F));have hz:=R.o w3 M.o;clear F))
   all_goals
    go_wp2;go_ret;exact⟨by simp,ap.o w3 M.o⟩
 rw[aF k7]at e2;by_cases k8:q.kind=8
 .rw[bh k8]at e3;clear k6 k7 k8 ak;obtain⟨y,bb,hv⟩:=AA q.A a.T;have u:=gj (N5 K X H p q.A w1.drew (i.o.x.below (Below.rf w1).drew) (by rw[u1];exact HG.o.len) (by rw[u1];exact HG.o.acls));have E:=gj (fun w2 (m:Q8 (G (Q w1)) w1 w2)=>Jq (Q6 ta (O a.T) tc) a.T q.A w2.drew (gE.below (gE.below i.o.rg.T m) (Below.rf w2).drew) HG.o.len HG.o.acls);rw[u1,hv]at u;rw[hv]at E;clear hv;go_upto_region 11 with fail
  go_region_held3 (fun w'=>Rn w' ⟨W,0,J⟩=N (Q5 (N ⟨X,0,J⟩))/\Rn w' ⟨D,1,J⟩=N (I Y q.A))
   (first|exact⟨c0,d1⟩|exact⟨y0,y1⟩)
   (first|(go_at_call 169;with_reducible refine u.o.mono ?_;rintro e w2 ⟨rfl,j⟩;have d:gy (Q8 (G (Q w1)) w1 w2):=gj ((Below.rf w1).drew.tn j);have y0:=(d.o.cell (p:=⟨W,0,J⟩) V).trans c0;have y1:=(d.o.cell (p:=⟨D,1,J⟩) U).trans d1;clear j))
  all_goals
   obtain⟨m1,m2,m3,m4⟩:=R.o w2 d.o;have bl:=gK m1;have bn:=gK m2;have bo:=gK m3;have ag:=gj (E.o w2 d.o);clear y0 y1 c0 c1 d0 d1 d2 d3 d4 d5 U V;go_upto_region 12 with fail
   go_region_held3 (fun w'=>Rn w' ⟨W,1,J⟩=N (Q5 (N ⟨A,0,J⟩))/\Rn w' ⟨A,1,J⟩=N (Q6 ta (O a.T) tc)/\Rn w' ⟨D,4,J⟩=N (Q7 ⟨Rm q.S⟩)/\Rn w' ⟨D,1,J⟩=N (I Y q.A))
    (first|exact⟨m1,m2,m3,m4⟩|exact hz)
    (first|(go_at_call 170;with_reducible refine ag.o.mono ?_;rintro e w3 ⟨rfl,F⟩;have M:gy (Q8 (G (Q w1)) w1 w3):=gj (d.o.tn ((Below.rf w2).drew.tn F));have hz:=R.o w3 M.o;clear F))
   all_goals
    go_wp2;go_ret;exact⟨by simp,ap.o w3 M.o⟩
 rw[aF k8]at e3;clear k6 k7 k8 d1 d2 d3 d4 d5 c0 c1 V R ap;go_wp2_with fail;refine ak.o.mono ?_;rintro e w2 ⟨rfl,h2,j⟩;have ba:Az w2 b Z W X n l s/\Q8 b w w2:=⟨⟨_,_,_,_,_,_,_,_,_,_,_,_,_,_,_,_,_,h2,HS.o⟩,bk.o.trans j⟩;have bH:=gj ba;clear h2 j ba d0 U;go_wp2;go_ret;exact⟨rfl,bH.o⟩
end
theorem C3(gb go n cap i j:Nat)(a b:Int)(ha:a=(i:Int))(l:b=(j:Int))(q:i<=j)(r:j<=cap)(s:i<cap)(w:Q0):
  (Instr.slice 49 (Q6 (N ⟨gb,go,J⟩) n cap) (N (I Y a)) (N (I Y b)) J).run prog w=.ok (Q6 (N ⟨gb,go+i*4,J⟩) (j-i) (cap-i)) w:=by
 subst ha l;have m:prog.underlying 49=N (.slice (prog.elem 49)):=by kernel_rfl
 have o:(sizeOf (prog.elem 49)).run prog w=.ok 4 w:=by kernel_rfl
 rw[run_slice_lh (P:=prog) (w:=w) 49 (N ⟨gb,go,J⟩) n cap m Y Y (i:Int) (j:Int) (by omega) (by omega) (by omega),o];have d:¬cap=i:=by omega
 simp[Result.andThen,sliced,Addr.add,d]
theorem jE.sub{w:Q0}{b off:Nat}(h:jE w (Q6 (N ⟨b,off,J⟩) (O os) cap) os)(i:Nat)(j:i<O os)(c:Nat)(hc:1<=c):jE w (Q6 (N ⟨b,off+i*4,J⟩) 1 c) [os[i]]:=by
 obtain⟨a,cap',e,-,l⟩:=h.gU;cases e;obtain⟨q,m,o,c0,c1,c2,c3⟩:=l i j;cases o;refine⟨rfl,_,c,rfl,hc,fun k hk=>⟨b,off+i*4,rfl,?_⟩⟩;have d:k<4:=hk
 match k,d with
 | 0,_=>exact c0
 | 1,_=>exact c1
 | 2,_=>exact c2
 | 3,_=>exact c3
theorem jE.one{w:Q0}{a:Option Addr}(h:jE w (Q6 a (O os) cap) os)(hl:0<O os):∃u,os.take 1=[u]/\u∈os/\1<=cap/\jE w (Q6 a 1 cap) [u]:=by
 obtain⟨a',cap',e,hc,d⟩:=h.gU;obtain⟨rfl,-,rfl⟩:=Value.slice.inj e;obtain⟨b,off,rfl,-⟩:=d 0 hl;cases os with
 | nil=>simp at hl
 | cons u us=>have:=jE.sub h 0 hl cap (by omega);rw[Nat.zero_mul,cL]at this;exact⟨u,rfl,cy,by omega,this⟩
theorem jB.fit{S:Vd}(h:∀x∈S,jB x):Od S:=fun x b=>⟨(h x b).1,by have:=(h x b).2.1;omega,by have:=(h x b).short;omega,by have:=(h x b).short;omega⟩
def yn(w1:Q0)(k:Nat)(lv:Q4)(wr:Q0):Prop:=∃S,iD wr lv S/\lG (120+8*k) S/\(∀j,Rl lv=N j->j<G (Q wr))/\Q8 (G (Q w1)) w1 wr
def Ee(w:Q0)(b:Nat)(Z:Nat->Obj->Prop)(D:Nat)(q:yo)(d:Option Addr)(i W X n:Nat)(l:Vf)(s c:Nat)(wr:Q0):Prop:=∃s',s'<=s+c/\Az wr b (fun j y=>Z j y\/(j=D/\y=Q1 #[I Y q.kind,I Y q.A,I Y q.B,I Y q.C,Q7 ⟨Rm q.S⟩,Q6 d (O q.iS) i] 88 (0,0))) W X n l s'/\Q8 b w wr
section
variable {w:Q0} {Z:Nat->Obj->Prop} {b W X A:Nat} {K C:Ve} {t o r g ev:Q4} {mb:Nat} {Ms:List Nat} {n:Nat} {l:Vf} {H:gA} {p:iM} {a:iy} {maybe:Vg} {ever:Vd} {armed:Bool}
theorem JM(s B:Nat)(q:yo)(sv:Q4)(h:nH w b Z W X A K C t o r g ev mb Ms n l H (N p) a maybe ever armed)(k7:uG n l s B H (N p) a maybe ever armed)(k8:H.dp.ir=false)(i2:s<=80000)(hq:q.mN)(la:∀w',Q8 b w w'->jE w' sv q.iS):
  Rg prog 128 #[Q5 (N ⟨W,0,J⟩),q.val sv] w fun e w'=>e=Ra (Rh true)/\(∃s',s'<=s+40/\Az w' b Z W X n l s')/\Q8 b w w':=by
 obtain⟨-,sa,M,rfl,-,-⟩:=la w (kz);unfold yo.val;have b3:Q8 (G (Q w)) w (Ro w (Q1 #[I Y q.kind,I Y q.A,I Y q.B,I Y q.C,Q7 ⟨Rm q.S⟩,Q6 sa (O q.iS) M] 88)):=(Below.rf w).al _;have D1:=gB w (Q1 #[I Y q.kind,I Y q.A,I Y q.B,I Y q.C,Q7 ⟨Rm q.S⟩,Q6 sa (O q.iS) M] 88);have d8:=gm D1;obtain⟨u1,u2,u3,u4,u5,u6⟩:=k7.up k8;obtain⟨z1,z2,z3,z4,z5,z6,z7⟩:=h.rU (aq (G (Q w)));have d9:=(h.grow b3).QH D1 ⟨.inr ⟨aq _,d8⟩,z2,z3,z5,z7⟩;have ag:=gj d9;have eb:=gj (b3.mono h.lt);have HS:=gj k7;have HQ:=gj hq;have HO:=gj (fun w' (E:Q8 b w w')=>la w' E);have gl:=gj (⟨u6.len,u6.sorted,u6.mH⟩:lG 120 a.T);have gn:=gj k8;obtain⟨v,li,ec⟩:=Ky ((a.V:Int)+IntKind.u64.wrap q.A);have ed:=gj ec;clear h k7 k8 hq la d9 z1 z2 z3 z4 z5 z6 z7 u1 u2 u3 u4 u5 u6 ec;go_enter func128,ntmps128;go_upto_region 1 with fail;generalize Ro w (Q1 #[I Y q.kind,I Y q.A,I Y q.B,I Y q.C,Q7 ⟨Rm q.S⟩,Q6 sa (O q.iS) M] 88)=w1 at *
 obtain⟨D,lc⟩:∃D,D=G (Q w):=⟨_,rfl⟩;rw[<-lc]at D1 d8 ag⊢;clear b3 lc;generalize Kn K w w1=K1 at *
 have gp:=gj D1;obtain⟨d0,d1,d2,d3,d4,d5,ak⟩:=CY D1;obtain⟨c0,c1,-,-,-,a4⟩:=ag.o.cells;have a1:=gr 1 ag.o.rg.row;have b4:=gm ag.o.rg.row;obtain⟨-,ta,tc,rfl,-,-⟩:=id ag.o.rg.T;clear D1;go_upto_if 20 with fail;go_cut [5] (fun lv wx=>yn w1 0 lv wx)
 case first=>
  go_wp2_with fail
  all_goals
   go_meet
   case rel=>first
    | exact⟨a.T,ag.o.rg.T,gl.o,fun j e=>ag.o.rg.lt j (.inl e),Below.rf _⟩
    | exact⟨[],gE.nil _ _ _ _,lG.nil _,fun j e=>by simp[Value.ownBlock]at e,Below.rf _⟩
 case rest=>
  have eg:=gj hcut;have gq:=d5;clear hcut;go_upto_block 0 with fail;go_cut [5]from 28 to 53 (fun lv wx=>∃k:Nat,k<=60/\yn w1 k lv wx)
  case first=>
   go_wp2_with fail;go_loopw [5,6] (fun lv i wr=>∃k:Nat,k<=O q.iS/\k<=60/\i=I Y (k:Int)/\yn w1 k lv wr) (fun _ i _=>O q.iS-(intOf i).toNat)
   case atStart=>exact⟨0,aJ _,by omega,rfl,eg.o⟩
   case round=>
    obtain⟨k,hk,b5,rfl,hrel⟩:=hrel;obtain⟨S,k4,k2,a5,E⟩:=hrel;have b8:=gj k4;have bw:=gj k2;have b9:=gj a5;have ca:=gj E;have gs:=(E.cell (p:=⟨D,5,J⟩) ak).trans d5;have hY:=gK gs;clear k4 k2 a5;by_cases ej:k<O q.iS/\k<60
    .obtain⟨a5,hT⟩:=ej;have hZ:(k:Int)<(O q.iS:Int):=by omega
     have gt:(k:Int)<60:=by omega
     have cb:=HO.o _ (eb.o.trans (E.mono ag.o.lt));obtain⟨i3,i4,el,gu,em⟩:=cb.gU;obtain⟨rfl,-,rfl⟩:=Value.slice.inj el;obtain⟨ob,oo,rfl,-⟩:=em k a5;have bI:=cb.sub k a5 (M-k) (by omega);obtain⟨u,k3⟩:∃u,u=q.iS[k]:=⟨_,rfl⟩;rw[<-k3]at bI;have cc:uJ [u]:=fun x k5=>by rw[ay.1 k5,k3];exact HQ.o.iS _ (bq a5)
     have bP:∀Wd,(Instr.slice 49 (Q6 (N ⟨ob,oo,J⟩) (O q.iS) M) (N (I Y (k:Int))) (N (I Y ((k:Int)+1))) J).run prog Wd=.ok (Q6 (N ⟨ob,oo+k*4,J⟩) 1 (M-k)) Wd:=fun Wd=>by
      have:=C3 ob oo (O q.iS) M k (k+1) (k:Int) ((k:Int)+1) rfl (by omega) (by omega) (by omega) (by omega) Wd
      rwa [show k+1-k=1 by omega]at this
     have bL:=gj bI;have gv:=gj cc;obtain⟨k0,bz⟩:∃k0,k0=M-k:=⟨_,rfl⟩;obtain⟨oz,en⟩:∃oz,oz=oo+k*4:=⟨_,rfl⟩;rw[<-bz,<-en]at bP bL;clear cb el gu em bI k3 cc bz en E;have ce:Q8 (G (Q wr)) wr (Ro wr (Q1 #[I Re 1,Q6 (N ⟨ob,oz,J⟩) 1 k0] 51)):=(Below.rf wr).al _;have E2:=gB wr (Q1 #[I Re 1,Q6 (N ⟨ob,oz,J⟩) 1 k0] 51);go_upto_region 8 with fail;generalize Ro wr (Q1 #[I Re 1,Q6 (N ⟨ob,oz,J⟩) 1 k0] 51)=w2 at *
     obtain⟨y0,y1,cg⟩:=xc E2;have bR:=gj ce;have gx:=gj E2;clear E2;go_wp2_with fail;refine(ui 1 _ [u] w2 (gE.below bL.o ce) gv.o (by omega)).mono ?_;rintro e w3 ⟨rfl,ci⟩;have bA:=gj (bR.o.tn ci);have cl:=oI ci gx.o;clear ce ci y0 y1 cg;cases hw:lF 1 [u] with
     | none=>
      unfold qi;simp only;have am:Q8 (G (Q w3)) w3 (Ro w3 (Q1 #[I Y 0,I Y 0] 31)):=(Below.rf w3).al _;have F4:=gB w3 (Q1 #[I Y 0,I Y 0] 31);have eo:=oI am cl;have gz:=gj (bw.o.fold hw);have er:=(qq hw).2;clear hw cl;go_upto_region 9 with fail;generalize Ro w3 (Q1 #[I Y 0,I Y 0] 31)=w4 at *
      have a6:=gj (bA.o.tn am);obtain⟨y0,y1,cg⟩:=xc eo;obtain⟨f0,f1,bS⟩:=xc F4;have g2:=gj (zH u5 (Q6 (N ⟨ob,oz,J⟩) 1 k0) 1 S [u] w4 (gE.below b8.o a6.o) (gE.below bL.o a6.o) bw.o.sorted (by have:=bw.o.len;omega) (by simp) (fun x k5=>(er x k5).1));clear am F4 eo er;go_wp2_with fail;refine g2.o.mono ?_;rintro e w5 ⟨g3,rfl,eD,bn,a7⟩
      have aE:yn w1 (k+1) g3 w5:=⟨_,eD,gz.o.mono (by omega),fun j e=>by
       rcases bn with rfl|bn
       .exact ae (b9.o j e) (a6.o.tn a7).size
       .exact(bn j e).2,ca.o.tn (a6.o.tn a7)⟩
      have R:=gj aE;clear eD bn a7 aE y0 y1 cg f0 f1 bS;go_wp2;go_roundw
      case rel=>exact⟨k+1,by omega,by omega,by go_num,R.o⟩
      case measure=>simp[intOf];omega
     | some f=>
      obtain⟨f1,f2⟩:=f;have g4:=vy hw;have i5:((f1:Int)==0)=false:=ar.2 (by omega);unfold qi;simp only;have am:Q8 (G (Q w3)) w3 (Ro w3 (Q1 #[I Y (f1:Nat),I Y (f2:Nat)] 31)):=(Below.rf w3).al _;have F4:=gB w3 (Q1 #[I Y (f1:Nat),I Y (f2:Nat)] 31);clear hw cl g4;go_upto_region 9 with fail;generalize Ro w3 (Q1 #[I Y (f1:Nat),I Y (f2:Nat)] 31)=w4 at *
      have a6:=gj (bA.o.tn am);obtain⟨g0,g1,bS⟩:=xc F4;have aE:yn w1 (k+1) u5 w4:=⟨S,gE.below b8.o a6.o,bw.o.mono (by omega),fun j e=>ae (b9.o j e) a6.o.size,ca.o.tn a6.o⟩;have R:=gj aE;clear aE am F4;go_wp2;go_roundw
      case rel=>exact⟨k+1,by omega,by omega,by go_num,R.o⟩
      case measure=>simp[intOf];omega
    .have fz:(¬(k:Int)<(O q.iS:Int))\/((k:Int)<(O q.iS:Int)/\¬(k:Int)<60):=by omega
     have R:gy (yn w1 k u5 wr):=gj ⟨S,b8.o,bw.o,b9.o,ca.o⟩;clear ej E;rcases fz with h0|⟨h0,h9⟩
     all_goals
      go_wp2;go_meet
      case rel=>exact⟨k,b5,R.o⟩
  case rest=>
   obtain⟨k,b5,S,k4,k2,a5,E⟩:=hcut;have H2:=gj (ag.o.below E);have bR:=gj (eb.o.trans (E.mono ag.o.lt));have i6:=k2.len;have eS:=gj k4;have cp:=gj k2;have cq:=oI E gp.o;have i7:=gj cq;clear k4 k2 a5 E eg gq d0 d1 d2 d3 d4 d5 ak c0 c1 a4 a1 b4;obtain⟨-,c1,-,-,-,a4⟩:=H2.o.cells;have le:=gr 0 H2.o.rg.row;have b4:=gm H2.o.rg.row;obtain⟨d0,d1,d2,d3,d4,d5,ak⟩:=CY cq;clear cq;go_upto_region 11 with fail;go_quiet (fail);clear c1 le b4 a4 d0 d1 d2 d3 d4 d5 ak;have h2:(im:Nat)=140737488355000:=rfl;obtain⟨x,kV,pf,i8,g5,cs⟩:∃(x:gw) (kV pf:Nat),O x<=100000/\kV<=14/\∀W',Q8 (G (Q wc)) wc W'->Rg prog 164 #[I Re (v:Nat),u5] W' fun e w'=>e=Ra (Rc #[Q7 ⟨Rm x⟩,Q9 #[I Y (kV:Nat),I Y (pf:Nat)]])/\Q8 (G (Q W')) W' w':=by
    cases eT:ij v with
    | true=>have ct:=yd 6 S fun y lf=>(cp.o.mH y lf).short;have i9:=rz v S;exact⟨kh v S,0,0,by omega,by omega,fun W' hW=>xS v u5 S W' (gE.below eS.o hW) (by omega) eT (jB.fit cp.o.mH)⟩
    | false=>exact⟨[],4,0,by simp,by omega,fun W' hW=>yP v u5 W' ed.o eT⟩
   have cu:=gj (fun m=>cs (wc.drewN m) ((Below.rf wc).drewN m));have H3:=gj (fun m=>H2.o.below ((Below.rf wc).drewN m));have bA:=gj (fun m=>(bR.o.drewN m:Q8 b w (wc.drewN m)));clear cs;go_wp2_with fail;refine(cu.o _).mono ?_;rintro e w4 ⟨rfl,am⟩;have cv:=(H3.o _).below am;have eV:=(bA.o _).trans (am.mono (H3.o _).lt);have a7:Q8 (G (Q w4)) w4 (Ro w4 (Q1 #[I Y (kV:Nat),I Y (pf:Nat)] 31)):=(Below.rf w4).al _;have F5:=gB w4 (Q1 #[I Y (kV:Nat),I Y (pf:Nat)] 31);go_upto_region 13 with fail;generalize Ro w4 (Q1 #[I Y (kV:Nat),I Y (pf:Nat)] 31)=w5 at *
   have H5:=gj (cv.below a7);have c2:=gj (eV.trans (a7.mono cv.lt));obtain⟨f0,f1,bS⟩:=xc F5;have kW:=(H5.o.z D _ (.inr ⟨rfl,rfl⟩)).2;obtain⟨d0,d1,d2,d3,d4,d5,ak⟩:=CY kW;have e0:=gj (uR q.C 35 w5 HQ.o.C.1 HQ.o.C.2 (by decide));have hd:=zD q.C 35 (by omega);obtain⟨F,ct⟩:∃F:Nat,uB q.C 35=((F:Nat):Int):=⟨(uB q.C 35).toNat,by omega⟩;rw[ct]at e0 hd;clear am cv eV a7 F5 kW ct H2 bR cu H3 bA eS cp;go_wp2_with fail;refine e0.o.mono ?_;rintro e w6 ⟨rfl,rfl⟩;obtain⟨d,c3⟩:∃d,d=(O x+(30+F)-1) / (30+F):=⟨_,rfl⟩;have ld:((O x:Int)+(30+(F:Int))-1) / (30+(F:Int))=(d:Int):=by rw[c3,show(O x:Int)+(30+(F:Int))-1=((O x+(30+F)-1:Nat):Int) by omega,show(30+(F:Int))=((30+F:Nat):Int) by omega];exact(Int.natCast_ediv _ _).symm
   have e1:d*(30+F)<=O x+(30+F)-1:=by rw[c3];exact Nat.div_mul_le_self _ _
   have hg:=gj e1;clear c3 e1;go_upto_region 15 with fail;rw[ld];clear ld;have a2:gy ((∃s',s'<=s+40/\Az w5 b Z W X n l s')/\Q8 b w w5):=gj ⟨⟨s,by omega,_,_,_,_,_,_,_,_,_,_,_,_,_,_,_,_,_,H5.o.Po fun j x kW=>.inl kW,HS.o⟩,c2.o⟩;have hh:((kV:Int) != 0)=true\/kV=0:=by
    by_cases h0:kV=0
    .exact .inr h0
    .exact .inl (eB.2 (by omega))
   clear g5;rcases hh with jj|rfl
   .clear d0 d1 d2 d3 d4 d5 ak f1;go_wp2;go_ret;exact⟨rfl,a2.o⟩
   by_cases f3:16<d
   .have dT:(16:Int)<(d:Int):=by omega
    clear d0 d1 d2 d3 d4 d5 ak f1;go_wp2;go_ret;exact⟨rfl,a2.o⟩
   have dT:¬(16:Int)<(d:Int):=by omega
   have e2:=gj (xL v d w5 ed.o);clear a2 d0 d1 d2 d3 d4 d5 ak;go_wp2_with fail;refine e2.o.mono ?_;rintro e w6 ⟨fr,rfl,c4⟩;have e3:=gj (c2.o.trans (c4.mono H5.o.lt));have bb:=gj (vR s B fr (H5.o.below c4) HS.o gn.o (by omega));clear c4 f0 f1 bS;go_wp2_with fail;refine bb.o.mono ?_;rintro e w7 ⟨rfl,e4,e5⟩;have c5:=gj e4;have e6:=gj (e3.o.trans e5);clear e4 e5 e2 bb e3 c2 H5;obtain⟨A7,K7,C7,t7,o7,r7,g7,jp,j0,j1,H7,p7,lk,hi,hU,hj,B7,aa,bc⟩:=c5.o;have kW:=(aa.z D _ (.inr ⟨rfl,rfl⟩)).2;obtain⟨d0,d1,d2,d3,d4,d5,ak⟩:=CY kW;obtain⟨c0,-,-,-,-,a4⟩:=aa.cells;have bi:=gj (pF K7 X H7 (N p7) w7 aa.x);have R:gy (Ee w b Z D q sa M W X n l s 2 w7):=gj ⟨s+2,aq _,c5.o,e6.o⟩;have hn:gy (∀wr c,Ee w b Z D q sa M W X n l s c wr->c<=4->Ee w b Z D q sa M W X n l s 4 wr):=gj (fun wr c ⟨s',h1,k1,h3⟩ hc=>⟨s',by omega,k1,h3⟩);clear e6 c5 f3 kW;go_upto_region 18 with fail;go_cut [114]from 94 to 114 (fun lg wx=>w7=wx/\∃c:Bool,lg=Rh c/\(c=true->H7.dp.ir=false/\0<O q.iS))
   case first=>
    rcases hdd:H7.dp.ir with _|_
    case true=>
     rw[hdd]at bi;clear aa bc hdd;go_wp2_with ((go_at_call 45;refine bi.o.mono ?_;rintro e w8 ⟨rfl,rfl⟩))
     all_goals
      go_meet;exact⟨rfl,_,rfl,fun e=>absurd e (by decide)⟩
    case false=>
     rw[hdd]at bi;by_cases hl:0<O q.iS
     case pos=>
      have e7:(0:Int)<(O q.iS:Int):=by omega
      have e8:=gj hl;have ho:=gj hdd;clear aa bc hdd;go_wp2_with ((go_at_call 45;refine bi.o.mono ?_;rintro e w8 ⟨rfl,rfl⟩))
      all_goals
       go_meet;exact⟨rfl,_,rfl,fun e=>by first|exact absurd e (by decide)|exact⟨ho.o,e8.o⟩|exact⟨rfl,e8.o⟩⟩
     case neg=>
      have e7:¬(0:Int)<(O q.iS:Int):=by omega
      clear aa bc hdd;go_wp2_with ((go_at_call 45;refine bi.o.mono ?_;rintro e w8 ⟨rfl,rfl⟩))
      all_goals
       go_meet;exact⟨rfl,_,rfl,fun e=>absurd e (by decide)⟩
   case rest=>
   obtain⟨rfl,k0,rfl,bz⟩:=hcut;have hp:=gj bz;clear bz;go_upto_if 114 with fail;go_cut [14] (fun bB wx=>bB=Rh true/\Ee w b Z D q sa M W X n l s 4 wx)
   case first=>
    cases k0 with
    | false=>clear aa bc;go_wp2_with fail;go_meet;exact⟨rfl,hn.o _ _ R.o (by omega)⟩
    | true=>
     obtain⟨hdd,hl⟩:=hp.o rfl;rw[hdd]at bi;have e7:(0:Int)<(O q.iS:Int):=by omega
     obtain⟨u,-,e9,j2,c6⟩:=(HO.o w7 R.o.choose_spec.2.2).one hl;have fb:yo.mN ⟨1,1,0,0,[],[u]⟩:=⟨⟨by show _<=(1:Int);omega,by show(1:Int)<=_;omega⟩,⟨by show _<=(1:Int);omega,by show(1:Int)<=_;omega⟩,⟨by show _<=(0:Int);omega,by show(0:Int)<=_;omega⟩,⟨by show _<=(0:Int);omega,by show(0:Int)<=_;omega⟩,aJ _,fun x k5=>by rw[ay.1 k5];exact HQ.o.iS u e9,by show 1<=_;omega⟩;have hr:gy (Rg prog 127 #[Q5 (N ⟨W,0,J⟩),Q9 #[I Y 1,I Y 1,I Y 0,I Y 0,Q7 ⟨#[]⟩,Q6 sa 1 M]] w7 fun e w'=>∃s:gw,e=Ra (Q7 ⟨Rm s⟩)/\Q8 (G (Q w7)) w7 w'):=gj (zN ⟨1,1,0,0,[],[u]⟩ (Q6 sa 1 M) aa fb c6);have bb:gy (∀(fr:gw) w8,Q8 (G (Q w7)) w7 w8->Rg prog 126 #[Q5 (N ⟨W,0,J⟩),Q7 ⟨Rm fr⟩] w8 fun e w'=>e=Ra (Rh true)/\Ee w b Z D q sa M W X n l s 4 w'):=gj (fun fr w8 E=>(vR (s+2) B7 fr (aa.below E) bc hdd (by omega)).mono fun e w' ⟨h1,k1,h3⟩=>⟨h1,s+2+2,by omega,k1,(R.o.choose_spec.2.2.trans (E.mono aa.lt)).trans h3⟩);clear c6 fb e9 aa bc hdd
     go_wp2_with ((first
      | (go_at_call 127;refine hr.o.mono ?_;rintro e w8 ⟨hs,rfl,fd⟩;have ht:=gj (bb.o hs w8 fd);clear fd)
      | (go_at_call 126;refine ht.o.mono ?_;rintro e w9 ⟨rfl,fg⟩;have hu:=gj fg;clear fg)))
     all_goals
      go_meet;exact⟨rfl,hu.o⟩
   case rest=>
    obtain⟨rfl,c7⟩:=hcut;have hv:=gj c7;clear c7 d0 d1 d2 d3 d4 d5 ak c0 a4;go_wp2_with fail;go_loopw [14,15] (fun bB i wr=>bB=Rh true/\∃k:Nat,k<=d/\i=I Y (k:Int)/\Ee w b Z D q sa M W X n l s (4+2*k) wr) (fun _ i _=>d-(intOf i).toNat)
    case atStart=>exact⟨rfl,0,aJ _,rfl,hv.o⟩
    case round=>
     obtain⟨rfl,k,hk,rfl,bD⟩:=hrel;have j3:=gj bD;obtain⟨s',kb,k3,E⟩:=bD;have a2:gy ((∃s',s'<=s+40/\Az wr b Z W X n l s')/\Q8 b w wr):=gj (by obtain⟨A8,K8,C8,t8,o8,r8,g8,hx,hy,hz,H8,p8,a8,c8,d6,c9,B8,ap,bk⟩:=k3;exact⟨⟨s',by omega,_,_,_,_,_,_,_,_,_,_,_,_,_,_,_,_,_,ap.Po fun j x kW=>.inl kW,bk⟩,E⟩);obtain⟨A8,K8,C8,t8,o8,r8,g8,hx,hy,hz,H8,p8,a8,c8,d6,c9,B8,ap,bk⟩:=k3;have a3:=gj (pF K8 X H8 (N p8) wr ap.x);obtain⟨c0,-,-,-,-,a4⟩:=ap.cells;by_cases kd:k<d
     .have f6:(k:Int)<(d:Int):=by omega
      rcases hdd:H8.dp.ir with _|_
      case true=>rw[hdd]at a3;clear ap bk hdd E;go_wp2_with ((go_at_call 45;refine a3.o.mono ?_;rintro e w8 ⟨rfl,rfl⟩));go_ret;exact⟨rfl,a2.o⟩
      case false=>
       rw[hdd]at a3;obtain⟨T,k6⟩:∃T:Nat,T=(k+1)*(30+F):=⟨_,rfl⟩;obtain⟨U,lb⟩:∃U:Nat,U=k*(30+F):=⟨_,rfl⟩;have hC:T=U+(30+F):=by rw[k6,lb,Nat.succ_mul]
       have kf:T<=O x+(30+F)-1:=au (by rw[k6];exact cQ _ (by omega)) hg.o;have hD:IntKind.i64.wrap (((k:Int)+1)*(30+(F:Int)))=(T:Int):=by rw[show((k:Int)+1)*(30+(F:Int))=((T:Nat):Int) by rw[k6];push_cast;rfl];exact IntWalk.i64_in _ (by omega)
       have hE:IntKind.i64.wrap ((k:Int)*(30+(F:Int)))=(U:Int):=by rw[show(k:Int)*(30+(F:Int))=((U:Nat):Int) by rw[lb];push_cast;rfl];exact IntWalk.i64_in _ (by omega)
       have bb:gy (∀(fr:gw) w9,Q8 (G (Q wr)) wr w9->Rg prog 126 #[Q5 (N ⟨W,0,J⟩),Q7 ⟨Rm fr⟩] w9 fun e w'=>e=Ra (Rh true)/\Ee w b Z D q sa M W X n l s (4+2*(k+1)) w'):=gj (fun fr w9 a0=>(vR s' B8 fr (ap.below a0) bk hdd (by omega)).mono fun e w' ⟨h1,k1,h3⟩=>⟨h1,s'+2,by omega,k1,(E.trans (a0.mono ap.lt)).trans h3⟩);have io:=gj ap.lt;have hcv:∀W':Q0,(convert 112 9 (Q6 (N ⟨G (Q W'),0,J⟩) 1 1)).run prog (Ro W' (Q1 #[I .u8 (IntKind.u8.wrap (k:Int))] 5))=.ok (Q7 ⟨[byteOf k].toArray⟩) (Ro W' (Q1 #[I .u8 (IntKind.u8.wrap (k:Int))] 5)):=fun W'=>by have:=ow W' (byteOf k);rw[pJ]at this;exact this.convert
       have f8:∀W':Q0,(convert 112 9 (Q6 (N ⟨G (Q W'),0,J⟩) 1 1)).run prog (Ro W' (Q1 #[I .u8 (IntKind.u8.wrap (k:Int))] 5)).drew=.ok (Q7 ⟨[byteOf k].toArray⟩) (Ro W' (Q1 #[I .u8 (IntKind.u8.wrap (k:Int))] 5)).drew:=fun W'=>by have:=ow W' (byteOf k);rw[pJ]at this;exact(this.below ((Below.rf _).drew)).convert
       have fi:Q8 (G (Q wr)) wr (Ro wr (Q1 #[I .u8 (IntKind.u8.wrap (k:Int))] 5)).drew:=((Below.rf wr).al _).drew;have kk:U<=T:=by omega
       have kl:U<=O x:=by omega
       clear k6 lb hC ap bk hdd E;by_cases hG:O x<T
       case' pos=>
        have da:(O x:Int)<(T:Int):=by omega
        obtain⟨pc,hH,bP⟩:∃pc:gw,O pc<=100000/\∀W',(Instr.slice 9 (Q7 ⟨Rm x⟩) (N (I Y (U:Int))) (N (I Y (O x:Int))) J).run prog W'=.ok (Q7 ⟨Rm pc⟩) W':=⟨_,by simp;omega,fun W'=>oJ underlying9 x Y Y (U:Int) (O x:Int) (by omega) (by omega) (by omega) W'⟩
       case' neg=>
        have da:¬(O x:Int)<(T:Int):=by omega
        obtain⟨pc,hH,bP⟩:∃pc:gw,O pc<=100000/\∀W',(Instr.slice 9 (Q7 ⟨Rm x⟩) (N (I Y (U:Int))) (N (I Y (T:Int))) J).run prog W'=.ok (Q7 ⟨Rm pc⟩) W':=⟨_,by simp;omega,fun W'=>oJ underlying9 x Y Y (U:Int) (T:Int) (by omega) (by omega) (by omega) W'⟩
       all_goals
        have f9:∀W',(Op.stringOp .add ⟨[byteOf k].toArray⟩ ⟨Rm pc⟩).run prog W'=.ok (Q7 ⟨([byteOf k]++pc).toArray⟩) W':=fun W'=>nU _ _ (by simp;omega) W';have hI:=gj (fun W'=>pB 4 ([byteOf k]++pc) W' (by simp;omega));clear hG;go_upto_region 26 with ((go_at_call 45;refine a3.o.mono ?_;rintro e w8 ⟨rfl,rfl⟩))
        have fk:=gj fi;clear fi;go_cut [14]from 123 to 178 (fun bB wx=>bB=Rh true/\Ee w b Z D q sa M W X n l s (4+2*(k+1)) wx)
        case first=>
         go_region_with ((first
          | (go_at_call 28;refine(hI.o _).mono ?_;rintro e w9 ⟨rfl,a0⟩;have hJ:gy (Q8 (G (Q w8)) w8 w9):=gj (fk.o.tn a0);clear a0)
          | (go_at_call 126;refine(bb.o _ w9 hJ.o).mono ?_;rintro e kn ⟨rfl,dc⟩;have ga:=gj dc;clear dc)))
         all_goals
          go_wp2_with fail;go_meet;exact⟨rfl,ga.o⟩
        case rest=>
         obtain⟨rfl,bD⟩:=hcut;have HC:=gj bD;obtain⟨s9,hN,hO,a0⟩:=bD;obtain⟨A9,K9,C9,t9,o9,r9,g9,ko,kp,kq,H9,p9,a9,hQ,hV,hR,B9,bE,dk⟩:=hO;have bv:=gj (pF K9 X H9 (N p9) wc bE.x);clear c0 a4 a3 hcv f8 fk hD hE da bP f9;obtain⟨c0,-,-,-,-,a4⟩:=bE.cells;rcases hdd:H9.dp.ir with _|_
         case true=>
          rw[hdd]at bv;clear bE dk hdd a0;go_wp2_with ((go_at_call 45;refine bv.o.mono ?_;rintro e w8 ⟨rfl,rfl⟩))
          all_goals
           go_roundw
           case rel=>exact⟨rfl,k+1,by omega,by go_num,HC.o⟩
           case measure=>simp[intOf];omega
         case false=>
          rw[hdd]at bv;have hS:gy (Rg prog 33 #[Q5 (N ⟨W,0,J⟩),I Y 3] wc fun e w'=>e=Ra (Rh true)/\Ee w b Z D q sa M W X n l s (4+2*(k+1)) w'):=gj ((uq s9 B9 3 bE dk hdd (by omega)).mono fun e w' ⟨h1,K',o',g',p',a',k1,h3,h4⟩=>⟨h1,s9,hN,⟨_,_,_,_,_,_,_,_,_,_,_,_,_,_,_,_,_,k1,h3⟩,a0.trans h4⟩);clear bE dk hdd a0
          go_wp2_with ((first
           | (go_at_call 45;refine bv.o.mono ?_;rintro e w8 ⟨rfl,rfl⟩)
           | (go_at_call 33;refine hS.o.mono ?_;rintro e kr ⟨rfl,dl⟩;have gb:=gj dl;clear dl)))
          all_goals
           go_roundw
           case rel=>first
            | exact⟨rfl,k+1,by omega,by go_num,gb.o⟩
            | exact⟨rfl,k+1,by omega,by go_num,HC.o⟩
           case measure=>simp[intOf];omega
     .obtain rfl:k=d:=by omega
      have f6:¬(k:Int)<(k:Int):=by omega
      clear ap bk E;go_wp2_with ((go_at_call 45;refine a3.o.mono ?_;rintro e w8 ⟨rfl,rfl⟩));go_ret;exact⟨rfl,a2.o⟩
end
def yt(w:Q0)(b:Nat)(Z:Nat->Obj->Prop)(W X n:Nat)(l:Vf)(s:Nat)(e:Ending)(w':Q0):Prop:=e=Ra (Rh true)/\(∃s',s'<=s+40/\P9 w' b Z W X n l s')/\Q8 b w w'
theorem yt.of{w w':Q0}{b:Nat}{Z:Nat->Obj->Prop}{W X n s':Nat}{l:Vf}(h:Az w' b Z W X n l s')(d:s'<=s+40)(i:Q8 b w w'):yt w b Z W X n l s (Ra (Rh true)) w':=⟨rfl,⟨s',d,h.at⟩,i⟩
section
variable {w:Q0} {Z:Nat->Obj->Prop} {b W X A:Nat} {K C:Ve} {t o r g ev:Q4} {mb:Nat} {Ms:List Nat} {n:Nat} {l:Vf} {H:gA} {P:Option iM} {p:iM} {a:iy} {maybe:Vg} {ever:Vd} {armed:Bool}
theorem Mh(s B:Nat)(q:yo)(sv:Q4)(h:nH w b Z W X A K C t o r g ev mb Ms n l H P a maybe ever armed)(hs:uG n l s B H P a maybe ever armed)(c7:s<=80000)(hq:q.mN)(hO:∀w',Q8 b w w'->jE w' sv q.iS)(bc:∀(w1:Q0) (K1:Ve) (p:iM),P=N p->Q8 b w w1->H.dp.ir=false->nH w1 b Z W X A K1 C t o r g ev mb Ms n l H (N p) a maybe ever armed->Rg prog 128 #[Q5 (N ⟨W,0,J⟩),q.val sv] w1 fun e w'=>e=Ra (Rh true)/\(∃s',s'<=s+40/\Az w' b Z W X n l s')/\Q8 b w1 w'):
  Rg prog 89 #[Q5 (N ⟨W,0,J⟩),q.val sv] w (yt w b Z W X n l s):=by
 have cb:=hO w (kz);obtain⟨-,sa,sc,rfl,-,-⟩:=cb;have bi:Q8 (G (Q w)) w (Ro w (Q1 #[I Y q.kind,I Y q.A,I Y q.B,I Y q.C,Q7 ⟨Rm q.S⟩,Q6 sa (O q.iS) sc] 88)):=(Below.rf w).al _;have D1:=gB w (Q1 #[I Y q.kind,I Y q.A,I Y q.B,I Y q.C,Q7 ⟨Rm q.S⟩,Q6 sa (O q.iS) sc] 88);have bH:=gm D1;obtain⟨z1,z2,z3,z4,z5,z6,z7⟩:=h.rU (aq (G (Q w)));have i:=gj (h.grow bi);have F:=gj (bi.mono h.lt);have u:=gj hs;have HQ:=gj hq;have HO:=gj (hO _ F.o);have bl:=gj bc;have cc:=gj z3;have bn:∀x y:Int,(x==y)=decide (x=y):=fun _ _=>rfl;have j:=gj bn;clear h hs hq hO bc z1 z2 z3 z4 z5 z6 z7 bn;unfold yo.val at *
 go_enter func89,ntmps89;go_upto_region 1 with fail;generalize Ro w (Q1 #[I Y q.kind,I Y q.A,I Y q.B,I Y q.C,Q7 ⟨Rm q.S⟩,Q6 sa (O q.iS) sc] 88)=w1 at *
 obtain⟨D,hD⟩:∃D,D=G (Q w):=⟨_,rfl⟩;rw[<-hD]at D1 bH cc⊢;have bI:gy (Kn K w w1 D):=gj (.inr ⟨by omega,bH⟩);clear bi hD;generalize Kn K w w1=K1 at *
 have c8:=gj D1;obtain⟨d0,d1,d2,d3,d4,d5,a7⟩:=CY D1;obtain⟨c0,c1,-,-,c4,aE⟩:=i.o.cells;clear D1;have R:=j.o q.kind 10;by_cases E:q.kind=10
 .rw[bh E]at R;clear E;have bL:=gj (Db s B q (Q6 sa (O q.iS) sc) i.o u.o (by omega) HQ.o HO.o);unfold yo.val at bL;go_wp2_with fail;refine bL.o.mono ?_;rintro e w2 ⟨rfl,h2,bM⟩;have b2:gy (yt w b Z W X n l s (Ra (Rh true)) w2):=gj ⟨rfl,⟨s+1,by omega,h2⟩,F.o.trans bM⟩;clear h2 bM;go_wp2;go_ret;exact b2.o
 rw[aF E]at R;have a4:gy (yt w b Z W X n l s (Ra (Rh true)) w1):=gj ⟨rfl,⟨s,by omega,_,_,_,_,_,_,_,_,_,_,_,_,_,_,_,_,_,i.o,u.o⟩,F.o⟩;have br:=gj (yl K1 X H P w1 i.o.x);have a8:=gj (pF K1 X H P w1 i.o.x);cases P with
 | none=>clear E;go_wp2_with fail;refine br.o.mono ?_;rintro e w2 ⟨rfl,rfl⟩;go_wp2;go_ret;exact a4.o
 | some p=>
  rcases hdd:H.dp.ir with _|_
  case true=>rw[hdd]at a8;clear E hdd;go_wp2_with fail;refine br.o.mono ?_;rintro e w2 ⟨rfl,rfl⟩;go_wp2_with fail;refine a8.o.mono ?_;rintro e w3 ⟨rfl,rfl⟩;go_wp2;go_ret;exact a4.o
  case false=>
   rw[hdd]at a8;obtain⟨u1,u2,u3,u4,u5,u6⟩:=u.o.up hdd;have bs:=gj (zN q (Q6 sa (O q.iS) sc) i.o HQ.o HO.o);have bN:=gj (bl.o w1 K1 p rfl F.o hdd i.o);have HAS:=gj (Mg s B q (Q6 sa (O q.iS) sc) i.o u.o hdd HQ.o HO.o);have ce:=gj (fun(fr:gw) w2 (hb:Q8 (G (Q w1)) w1 w2)=>vR s B fr (i.o.below hb) u.o hdd (by omega));have cg:gy (∀w2,Q8 (G (Q w1)) w1 w2->Q8 b w w2):=gj (fun w2 hb=>F.o.trans (hb.mono i.o.lt));have ci:=gj hdd;have a5:=gj u3;have cl:=gj u4;unfold yo.val at bs HAS;have bt:=gj u1;obtain⟨m,bO⟩:∃m,q.kind=m:=⟨_,rfl⟩;rw[bO]at d0 R E bs HAS bN⊢;clear bO hdd u1 u2 u3 u4 u5 u6 bl;go_wp2_with fail;refine br.o.mono ?_;rintro e w2 ⟨rfl,rfl⟩;go_wp2_with fail;refine a8.o.mono ?_;rintro e w3 ⟨rfl,rfl⟩;by_cases kA:m=1\/m=2\/m=3\/m=-1\/m=-2
   .rcases kA with rfl|rfl|rfl|rfl|rfl
    all_goals
     clear R E;go_wp2_with fail;refine bs.o.mono ?_;rintro e V ⟨fr,rfl,U⟩;have bv:=gj (cg.o V U);have cm:=gj (ce.o fr V U);clear U c0 c1 c4 aE d0 d1 d2 d3 d4 d5 a7;go_wp2_with fail;refine cm.o.mono ?_;rintro e w5 ⟨rfl,bP,ag⟩;have HF:=gj (yt.of (s:=s) (s':=s+2) bP (by omega) (bv.o.trans ag));clear bP ag;go_wp2;go_ret;exact HF.o
   by_cases kC:m=-3
   .subst kC;clear R E kA;go_wp2_with fail;refine bN.o.mono ?_;rintro e V ⟨rfl,⟨s',cn,a2⟩,U⟩;have HF:=gj (yt.of a2 cn (F.o.trans U));clear a2 U;go_wp2;go_ret;exact HF.o
   by_cases kD:m=6\/m=7\/m=8\/m=9
   .rcases kD with rfl|rfl|rfl|rfl
    all_goals
     clear R E kA kC;go_wp2_with fail;refine HAS.o.mono ?_;rintro e V ⟨rfl,a2,U⟩;have HF:=gj (yt.of (s:=s) (s':=s) a2 (by omega) (F.o.trans U));clear a2 U;go_wp2;go_ret;exact HF.o
   by_cases kT:m=4
   .subst kT;clear R E kA kC kD;have co:=gj (Mn K1 X H p w3 i.o.x (by rw[bt.o];exact a5.o));go_wp2_with fail;refine co.o.mono ?_;rintro e V ⟨rfl,ak,M⟩;have H4:=gj (i.o.kQ M ak);have bv:=gj (F.o.trans (M.below i.o.lt i.o.kb));clear ak M c0 c1 c4 aE d0 d1 d2 d3 d4 d5 a7;obtain⟨-,c1,-,-,-,aE⟩:=H4.o.cells;go_wp2_with fail;refine(G5 A n l t o r g a V H4.o.rg a5.o fun f e=>(cl.o f e).1).mono ?_;rintro e w5 ⟨rfl,bR⟩;obtain⟨n1,n2,n3⟩:=Mb a;obtain⟨o5,g5,a0,ag⟩:=H4.o.ref bR n1 n2;have am:=u.o.st.own n1 n2 n3 (by rw[bt.o]) a5.o.ry;have HF:gy (yt w b Z W X n l s (Ra (Rh true)) w5):=gj (yt.of (s:=s) (s':=s) ⟨_,_,_,_,_,_,_,_,_,_,_,_,_,_,_,_,_,(by rw[bt.o]at a0;exact a0),⟨am,u.o.iF,u.o.evl,u.o.B⟩⟩ (by omega) (bv.o.trans ag));clear bR a0 ag am n1 n2 n3 c1 aE;go_wp2;go_ret;exact HF.o
   by_cases kN:m=5
   .subst kN;clear R E kA kC kD kT;have cq:=zD q.A 8 (by omega);obtain⟨d,hN⟩:∃d:Nat,uB q.A 8=((d:Nat):Int):=⟨(uB q.A 8).toNat,by omega⟩;have bS:=gj (uR q.A 8 w3 HQ.o.A.1 HQ.o.A.2 (by decide));rw[hN]at bS cq;have cs:=gj (uq s B d i.o u.o ci.o (by omega));clear hN;go_wp2_with fail;refine bS.o.mono ?_;rintro e V ⟨rfl,rfl⟩;go_wp2_with fail;refine cs.o.mono ?_;rintro e w5 ⟨rfl,K',o',g',p',a',h2,h3,h4⟩;have HF:=gj (yt.of (s:=s) (s':=s) ⟨_,_,_,_,_,_,_,_,_,_,_,_,_,_,_,_,_,h2,h3⟩ (by omega) (F.o.trans h4));clear h2 h3 h4;go_wp2;go_ret;exact HF.o
   by_cases kU:m=11
   .subst kU;clear R E kA kC kD kT kN;have bx:=gj (N6 K1 X H (N p) w3.drew q.A (i.o.x.below (Below.rf w3).drew) HQ.o.A.2);have bz:gy (∀w2,nA K1 w3.drew w2->Rn w2 ⟨W,0,J⟩=N (Q5 (N ⟨X,0,J⟩))/\Rn w2 ⟨D,1,J⟩=N (I Y q.A)):=gj (fun w2 a3=>⟨a3.qT i.o.kW.1 c0,a3.qT bI.o d1⟩);go_upto_region 25 with fail
    go_region_held3 (fun w'=>Rn w' ⟨W,0,J⟩=N (Q5 (N ⟨X,0,J⟩))/\Rn w' ⟨D,1,J⟩=N (I Y q.A))
     (first|exact⟨c0,d1⟩|exact hz)
     (first|(go_at_call 44;with_reducible refine bx.o.mono ?_;rintro e V ⟨rfl,ak,M⟩;have hz:=bz.o V M;have bB:=gj ak;have bD:=gj M;clear ak M))
    all_goals
     have hk:nA K1 w3 V:=(gR.gO ((Below.rf w3).drew)).trans bD.o;have av:=i.o.kQ hk bB.o;have hl:=u.o.st.nP.dp.left;have am:=u.o.st.oK H.il (max q.A (-1)) H.fail H.dp.iF armed u.o.st.inv.arm u.o.st.nP.ok.il ⟨by omega,by have:=HQ.o.A.2;omega⟩ u.o.st.nP.ok.fail u.o.st.nP.dp.iF;have HF:=gj (yt.of (s:=s) (s':=s) ⟨_,_,_,_,_,_,_,_,_,_,_,_,_,_,_,_,_,av,⟨am,u.o.iF,u.o.evl,u.o.B⟩⟩ (by omega) (F.o.trans (hk.below i.o.lt i.o.kb)));clear hk av hl am hz c0 c1 c4 aE d0 d1 d2 d3 d4 d5 a7;go_wp2;go_ret;exact HF.o
   by_cases kF:m=12
   .subst kF;clear R E kA kC kD kT kN kU;have bx:=gj (Ml K1 X H (N p) w3.drew q.A (i.o.x.below (Below.rf w3).drew));have bz:gy (∀w2,nA K1 w3.drew w2->Rn w2 ⟨W,0,J⟩=N (Q5 (N ⟨X,0,J⟩))/\Rn w2 ⟨D,1,J⟩=N (I Y q.A)):=gj (fun w2 a3=>⟨a3.qT i.o.kW.1 c0,a3.qT bI.o d1⟩);go_upto_region 27 with fail
    go_region_held3 (fun w'=>Rn w' ⟨W,0,J⟩=N (Q5 (N ⟨X,0,J⟩))/\Rn w' ⟨D,1,J⟩=N (I Y q.A))
     (first|exact⟨c0,d1⟩|exact hz)
     (first|(go_at_call 94;with_reducible refine bx.o.mono ?_;rintro e V ⟨rfl,ak,M⟩;have hz:=bz.o V M;have bB:=gj ak;have bD:=gj M;clear ak M))
    all_goals
     have hk:nA K1 w3 V:=(gR.gO ((Below.rf w3).drew)).trans bD.o;have av:=i.o.kQ hk bB.o;obtain⟨a0,ag⟩:=av.arm (decide (0<=q.A));have am:=u.o.st.oK H.il H.dp.left (max q.A (-1)) H.dp.iF (decide (0<=q.A)) (fun e=>bh (by omega)) u.o.st.nP.ok.il u.o.st.nP.dp.left ⟨by omega,by have:=HQ.o.A.2;omega⟩ u.o.st.nP.dp.iF;have HF:=gj (yt.of (s:=s) (s':=s) ⟨_,_,_,_,_,_,_,_,_,_,_,_,_,_,_,_,_,a0,⟨am,u.o.iF,u.o.evl,u.o.B⟩⟩ (by omega) ((F.o.trans (hk.below i.o.lt i.o.kb)).trans ag));obtain⟨y0,y1⟩:=hz;have c9:=gK y1;have da:=gK y0;have z4:=gD 4 av.row;obtain⟨-,-,-,-,x4,-⟩:=av.cells;clear hk av a0 ag am c0 c1 c4 aE d0 d1 d2 d3 d4 d5 a7;go_wp2;go_ret;exact HF.o
   have f1:(m==1)=false:=by rw[j.o];exact aF (by omega)
   have f2:(m==2)=false:=by rw[j.o];exact aF (by omega)
   have f3:(m==3)=false:=by rw[j.o];exact aF (by omega)
   have dc:(m==(-1))=false:=by rw[j.o];exact aF (by omega)
   have dk:(m==(-2))=false:=by rw[j.o];exact aF (by omega)
   have dl:(m==(-3))=false:=by rw[j.o];exact aF (by omega)
   have f4:(m==4)=false:=by rw[j.o];exact aF (by omega)
   have f5:(m==5)=false:=by rw[j.o];exact aF (by omega)
   have f6:(m==6)=false:=by rw[j.o];exact aF (by omega)
   have f7:(m==7)=false:=by rw[j.o];exact aF (by omega)
   have f8:(m==8)=false:=by rw[j.o];exact aF (by omega)
   have f9:(m==9)=false:=by rw[j.o];exact aF (by omega)
   have f11:(m==11)=false:=by rw[j.o];exact aF (by omega)
   have f12:(m==12)=false:=by rw[j.o];exact aF (by omega)
   clear kA kC kD kT kN kU kF E;go_wp2;go_ret;exact a4.o
end
theorem EL(v:Q4)(l:Vf)(w:Q0)(hr:gE w v 1 (O l) (l.map fun i=>I Y i))(_hl:O l<=im):
  Rg prog 12 #[v] w fun e w'=>∃Z,e=Ra Z/\gE w' Z 1 3 [I Y (gY l 0),I Y (gY l 1),I Y (gY l 2)]/\Q8 (G (Q w)) w w'/\∀j,Rl Z=N j->G (Q w)<=j/\j<G (Q w'):=by
 obtain⟨-,a,cap,rfl,av,hx⟩:=hr;have HX:=gj hx;have hm:im<=1000000000000000000:=by decide
 clear hx;go_enter func12,ntmps12;go_wp2_with fail;have S:Q8 (G (Q w)) w (Ro w (Q1 #[I Y 40,I Y 40,I Y 40] 3)):=(gJ w).alloc gH _;have R0:=gj (gB w (Q1 #[I Y 40,I Y 40,I Y 40] 3));have ak:=gj S;clear S;go_loopw [4] (fun i wr=>∃k:Nat,k<=O l/\k<=3/\i=I Y (k:Int)/\wr.heap[G (Q w)]?=N (Q1 #[I Y (rk l k 0),I Y (rk l k 1),I Y (rk l k 2)] 3 (0,0))/\Q8 (G (Q w)) w wr) (fun i _=>O l-(intOf i).toNat)
 case atStart=>exact⟨0,aJ _,by omega,rfl,R0.o,ak.o⟩
 case round=>
  obtain⟨k,hk,E,rfl,d,y⟩:=hrel;have HR:=gj d;have D:=gj y;by_cases U:k<O l/\k<3
  .obtain⟨V,h3⟩:=U;have a1:(k:Int)<O l:=by omega
   have a6:(k:Int)<3:=by omega
   obtain⟨b,o,rfl,c0⟩:=HX.o k (by rw[aB];exact V);rw[eA]at c0;have d0:=(y.cell (p:=⟨b,o+k,J⟩) (gK c0)).trans c0;have a2:b≠G (Q w):=fun e=>by have:b<G (Q w):=gK c0;omega
   have m:=gj (fun j=>OT l k j V);generalize l[k]=x at *
   have a3:=gm d;have F:x<0\/40<x\/(¬x<0/\¬ 40<x):=by omega
   obtain rfl|rfl|rfl:k=0\/k=1\/k=2:=by omega
   .simp only[cL]at d0;have e0:=gr 0 d;have z0:=gD 0 d;have M:=fun v:Q4=>gj (QN _ _ 0 v d);have s:=fun v u:Q4=>gj (QN _ _ 0 u (QN _ _ 0 v d));have B:=fun v:Q4=>gj (D.o.setCell (p:=⟨G (Q w),0,J⟩) gH v);have q:=fun v u:Q4=>gj ((D.o.setCell (p:=⟨G (Q w),0,J⟩) gH v).setCell (p:=⟨G (Q w),0,J⟩) gH u);clear d y;rcases F with C|C|⟨C,W⟩
    .have r:gy (min (max x 0) 40=0):=gj (by omega);go_wp2;go_roundw
     case rel=>exact⟨0+1,by omega,by omega,rfl,by rw[m.o 0,m.o 1,m.o 2,r.o];exact(s _ _).out,(q _ _).out⟩
     case measure=>simp[intOf];omega
    .have r:gy (min (max x 0) 40=40):=gj (by omega);have X:¬x<0:=by omega
     go_wp2;go_roundw
     case rel=>exact⟨0+1,by omega,by omega,rfl,by rw[m.o 0,m.o 1,m.o 2,r.o];exact(s _ _).out,(q _ _).out⟩
     case measure=>simp[intOf];omega
    .have r:gy (min (max x 0) 40=x):=gj (by omega);go_wp2;go_roundw
     case rel=>exact⟨0+1,by omega,by omega,rfl,by rw[m.o 0,m.o 1,m.o 2,r.o];exact(M _).out,(B _).out⟩
     case measure=>simp[intOf];omega
   .have e0:=gr 1 d;have z0:=gD 1 d;have M:=fun v:Q4=>gj (QN _ _ 1 v d);have s:=fun v u:Q4=>gj (QN _ _ 1 u (QN _ _ 1 v d));have B:=fun v:Q4=>gj (D.o.setCell (p:=⟨G (Q w),1,J⟩) gH v);have q:=fun v u:Q4=>gj ((D.o.setCell (p:=⟨G (Q w),1,J⟩) gH v).setCell (p:=⟨G (Q w),1,J⟩) gH u);clear d y;rcases F with C|C|⟨C,W⟩
    .have r:gy (min (max x 0) 40=0):=gj (by omega);go_wp2;go_roundw
     case rel=>exact⟨1+1,by omega,by omega,rfl,by rw[m.o 0,m.o 1,m.o 2,r.o];exact(s _ _).out,(q _ _).out⟩
     case measure=>simp[intOf];omega
    .have r:gy (min (max x 0) 40=40):=gj (by omega);have X:¬x<0:=by omega
     go_wp2;go_roundw
     case rel=>exact⟨1+1,by omega,by omega,rfl,by rw[m.o 0,m.o 1,m.o 2,r.o];exact(s _ _).out,(q _ _).out⟩
     case measure=>simp[intOf];omega
    .have r:gy (min (max x 0) 40=x):=gj (by omega);go_wp2;go_roundw
     case rel=>exact⟨1+1,by omega,by omega,rfl,by rw[m.o 0,m.o 1,m.o 2,r.o];exact(M _).out,(B _).out⟩
     case measure=>simp[intOf];omega
   .have e0:=gr 2 d;have z0:=gD 2 d;have M:=fun v:Q4=>gj (QN _ _ 2 v d);have s:=fun v u:Q4=>gj (QN _ _ 2 u (QN _ _ 2 v d));have B:=fun v:Q4=>gj (D.o.setCell (p:=⟨G (Q w),2,J⟩) gH v);have q:=fun v u:Q4=>gj ((D.o.setCell (p:=⟨G (Q w),2,J⟩) gH v).setCell (p:=⟨G (Q w),2,J⟩) gH u);clear d y;rcases F with C|C|⟨C,W⟩
    .have r:gy (min (max x 0) 40=0):=gj (by omega);go_wp2;go_roundw
     case rel=>exact⟨2+1,by omega,by omega,rfl,by rw[m.o 0,m.o 1,m.o 2,r.o];exact(s _ _).out,(q _ _).out⟩
     case measure=>simp[intOf];omega
    .have r:gy (min (max x 0) 40=40):=gj (by omega);have X:¬x<0:=by omega
     go_wp2;go_roundw
     case rel=>exact⟨2+1,by omega,by omega,rfl,by rw[m.o 0,m.o 1,m.o 2,r.o];exact(s _ _).out,(q _ _).out⟩
     case measure=>simp[intOf];omega
    .have r:gy (min (max x 0) 40=x):=gj (by omega);go_wp2;go_roundw
     case rel=>exact⟨2+1,by omega,by omega,rfl,by rw[m.o 0,m.o 1,m.o 2,r.o];exact(M _).out,(B _).out⟩
     case measure=>simp[intOf];omega
  .have aa:(¬(k:Int)<O l)\/((k:Int)<O l/\¬(k:Int)<3):=by omega
   have R:k=3\/k=O l:=by omega
   have HV:gy (gE wr (Q6 (N ⟨G (Q w),0,J⟩) 3 3) 1 3 [I Y (gY l 0),I Y (gY l 1),I Y (gY l 2)]):=gj (by
    rw[<-Jw l k 0 R (by omega) E,<-Jw l k 1 R (by omega) E,<-Jw l k 2 R (by omega) E];refine⟨rfl,_,3,rfl,aq _,fun i hi=>⟨_,0,rfl,?_⟩⟩;have al:i<3:=hi
    match i,al with
    | 0,_=>exact gr 0 d
    | 1,_=>exact gr 1 d
    | 2,_=>exact gr 2 d)
   have am:=gj (gm d);clear U d y;rcases aa with h0|⟨h0,h9⟩
   all_goals
    go_wp2;go_ret;exact⟨_,rfl,HV.o,D.o,fun j e=>by have:=am.o;simp[Value.ownBlock]at e;omega⟩
theorem nH.begun{w w1 w2 s:Q0}{Z:Nat->Obj->Prop}{X A n:Nat}{l:Vf}{M:Ve}{H:gA}{p:iM}{u o:Q4}(hZ:∀j x,Z j x->w.heap[j]?=N x)(U:gZ w)(ap:kM w)(h1:lM w1 M X H (N p))(hM:∀k,M k->G (Q w)<=k)(B:Q8 (G (Q w)) w w1)(V:Q8 (G (Q w1)) w1 w2)(av:∀j,Rl u=N j->G (Q w1)<=j)(d:jW w3 A n l (Q6 J 0 0) o u (Q6 J 0 0) (lE 0 []))(hA:G (Q w2)<=A)(ho:∀j,Rl o=N j->G (Q w2)<=j)(aa:Q8 (G (Q w2)) w2 w3){W mb:Nat}(E:Q8 (G (Q w3)) w3 s)(hW:G (Q w3)<=W)(bc:G (Q w3)<=mb)(q:s.heap[W]?=N (Q1 #[Q5 (N ⟨X,0,J⟩),Q5 (N ⟨A,0,J⟩),Q6 (N ⟨mb,0,J⟩) 1 1,Q6 J 0 0,Rh false] 58 (0,0)))(hr:s.heap[mb]?=N (Q1 #[Q5 (N ⟨A,0,J⟩)] 55 (0,0)))(aE:kx n l 0 480 H (N p) (lE 0 []) [(0,[])] [] false)(al:H.dp.iF=[]):
  Az s (G (Q w)) Z W X n l 0:=by
 have s1:=B.size;have s2:=V.size;have s3:=aa.size;have s4:=E.size;have lW:=gm q;have a0:=gm hr;have lA:=gm d.row;have lz:∀j x,Z j x->j<G (Q w):=fun j x r=>gm (hZ j x r);have lo:∀j,Rl o=N j->j<G (Q w3):=fun j e=>gS.iA d.out.own j e;have lr:∀j,Rl u=N j->j<G (Q w3):=fun j e=>d.lt j (.inr (.inl e));obtain⟨p1,p2,-⟩:=nh 0 [];have hx:=pY.new h1 hM B U ap;have F:Q8 (G (Q w1)) w1 s:=(V.trans (aa.mono s2)).trans (E.mono (by omega));have a4:=hx.grow (D:=fun _=>False) (gR.gO F) fun k e=>e.elim;have R:=d.below E;have a5:W≠mb:=fun e=>by rw[e,hr]at q;simp at q
 refine⟨A,Kn (fun k=>k<G (Q w)) w1 s,fun j=>j=mb\/Rl u=N j\/∃x,Z j x,Q6 J 0 0,o,u,Q6 J 0 0,Q6 J 0 0,mb,[A],H,p,lE 0 [],[(0,[])],[],false,480,⟨q,hr,rfl,by simp,fun i M' m y b=>?_,R,a4,gS.nil _ _ _,gQ.nil _ _,⟨.inr ⟨by omega,lW⟩,by omega⟩,⟨.inr ⟨by omega,by omega⟩,by omega⟩,fun j e=>by simp[Value.ownBlock]at e,fun j e=>.inr (.inl e),.inl rfl,fun j e=>by simp[Value.ownBlock]at e,fun j e=>⟨.inr ⟨by have:=ho j e;omega,by have:=lo j e;omega⟩,by have:=ho j e;omega⟩,fun j e=>by simp[Value.ownBlock]at e,fun j hj=>?_,fun k hk=>.inl hk,U.two,fun j x r=>⟨.inr (.inr ⟨x,r⟩),?_⟩⟩,⟨aE,fun _ _=>al,by simp,by simp⟩⟩
 .match i,y,b with
  | 0,y,b=>
   simp only[aY,dz]at y b;subst y b;have:=wH.self R (C:=fun j=>j=mb\/Rl u=N j\/∃x,Z j x) fun j e=>by simp[Value.ownBlock]at e
   rw[p1,p2]at this;exact⟨this,fun _=>by rw[p1,p2]⟩
  | i+1,y,b=>simp at y
 .rcases hj with rfl|e|⟨x,r⟩
  .exact⟨.inr ⟨by omega,a0⟩,by omega,fun e=>a5 (Eq.symm e),fun e=>by have:=lo _ e;omega,by simp[Value.ownBlock]⟩
  .have S:=av j e;have k2:=lr j e;exact⟨.inr ⟨by omega,by omega⟩,fun b=>d.sepA.2.1 (by rw[e,b]),by omega,fun b=>(d.sep j b).2.1 e,by simp[Value.ownBlock]⟩
  .have S:=lz j x r;exact⟨.inl S,by omega,by omega,fun b=>by have:=ho j b;omega,by simp[Value.ownBlock]⟩
 .have S:=lz j x r;have a6:=(B.block j S).trans (hZ j x r);exact(F.block j (by omega)).trans a6
theorem CG(b:Int)(l:Vf)(V:Q4)(w:Q0)(Z:Nat->Obj->Prop)(hZ:∀j x,Z j x->w.heap[j]?=N x)(hr:gE w V 1 (O l) (l.map fun i=>I Y i))(hl:O l<=im)(n:Nat)(hn:(n:Int)=min (max b 32) 128)(u:gZ w)(y:kM w):
  Rg prog 24 #[I Y b,V] w fun e w'=>∃W X,e=Ra (Rc #[Q5 (N ⟨W,0,J⟩),Rh true])/\Az w' (G (Q w)) Z W X n l 0/\Q8 (G (Q w)) w w':=by
 have bc:32<=n/\n<=128:=by omega
 obtain⟨H,p,ag,h2,h3,h4,h5,h6⟩:=kx.begun n l bc;have ak:=gj (MY n l V w hr n (by omega) u y H p ag);have B:=gj (fun w' (hb:Q8 (G (Q w)) w w')=>EL V l w' (gE.below hr hb) hl);have C:=gj (fun r' w' bl bn=>wy 0 n l (Q6 J 0 0) r' [] w' (gE.nil _ _ _ _) bl bn (by omega));have HZ:=gj hZ;have bo:=gj u;have br:=gj y;have bs:=gj h6;have a6:=gj h5;obtain⟨-,ra,rc,rfl,-,-⟩:=hr;clear ag h2 h3 h4 h5 h6 u y hZ;go_enter func24,ntmps24;have aa:(b<32/\(n:Int)=32)\/(¬b<32/\128<b/\(n:Int)=128)\/(¬b<32/\¬ 128<b/\(n:Int)=b):=by omega
 clear hn;rcases aa with ⟨c1,c2⟩|⟨c1,c3,c2⟩|⟨c1,c3,c2⟩
 all_goals
  rw[c2]at ak C;clear c2;go_wp2_with fail;refine ak.o.mono ?_;rintro e w1 ⟨X,M,rfl,h1,hM,am⟩;have H1:=gj h1;have HM:=gj hM;have D:=gj am;have a7:=gj (B.o);have r:Q8 (G (Q w1)) w1 (Ro w1 (Q1 #[I Y 0,I Y 0,I Y 0] 34)):=(Below.rf w1).al _;have F2:=gB w1 (Q1 #[I Y 0,I Y 0,I Y 0] 34);clear h1 hM am;unfold sH;go_wp2_with fail;generalize Ro w1 (Q1 #[I Y 0,I Y 0,I Y 0] 34)=w2 at *
  refine(B.o w2 (D.o.tn r)).mono ?_;rintro e w3 ⟨ap,rfl,av,E,F⟩;have aE:=gj (r.tn E);have m:=oI E F2;have f0:=gr 0 m;have f1:=gr 1 m;have f2:=gr 2 m;have a0:=gm m;have bw:=gj (fun j e=>au r.size (F j e).1:∀j,Rl ap=N j->G (Q w1)<=j);have R:=gj (C.o ap w3 av fun j e=>e.elim (fun e=>by simp[Value.ownBlock]at e) fun e=>(F j e).2);clear r F2 E F av;go_wp2_with fail;refine R.o.mono ?_;rintro e d ⟨A,o,rfl,hA,a1,ho,S⟩;have bA:=gj a1;have HA:=gj hA;have bB:=gj ho;have a2:=gj S;have q:=oI S m;clear a1 hA ho S f0 f1 f2 a0 m;have f0:=gr 0 q;have f1:=gr 1 q;have f2:=gr 2 q;have a0:=gm q;clear q R a7 B C;go_wp2_with fail;have M5:=gB d (Q1 #[Q5 (N ⟨A,0,J⟩)] 55);have s5:(Ro d (Q1 #[Q5 (N ⟨A,0,J⟩)] 55)).heap.size=G (Q d)+1:=aj _ _;have U:Q8 (G (Q d)) d (Ro d (Q1 #[Q5 (N ⟨A,0,J⟩)] 55)):=(Below.rf d).al _;generalize Ro d (Q1 #[Q5 (N ⟨A,0,J⟩)] 55)=w5 at *
  have R6:=gB w5 (Q1 #[Q5 (N ⟨X,0,J⟩),Q5 (N ⟨A,0,J⟩),Q6 (N ⟨G (Q d),0,J⟩) 1 1,Q6 J 0 0,Rh false] 58);have s:Q8 (G (Q w5)) w5 (Ro w5 (Q1 #[Q5 (N ⟨X,0,J⟩),Q5 (N ⟨A,0,J⟩),Q6 (N ⟨G (Q d),0,J⟩) 1 1,Q6 J 0 0,Rh false] 58)):=(Below.rf w5).al _;generalize Ro w5 (Q1 #[Q5 (N ⟨X,0,J⟩),Q5 (N ⟨A,0,J⟩),Q6 (N ⟨G (Q d),0,J⟩) 1 1,Q6 J 0 0,Rh false] 58)=w6 at *
  rw[s5]at R6;have a3:Az w6 (G (Q w)) Z (G (Q d)+1) X n l 0:=nH.begun HZ.o bo.o br.o H1.o HM.o D.o aE.o bw.o bA.o HA.o bB.o a2.o (U.tn s) (dS _) gH R6 (oI s M5) bs.o a6.o;have bH:=gj a3;have bI:gy (Q8 (G (Q w)) w w6):=gj ((((D.o.tn aE.o).tn a2.o).tn U).tn s);obtain⟨A9,K9,C9,t9,o9,r9,g9,ca,cb,cc,H9,p9,a9,bL,bP,bM,B9,a4,bN⟩:=a3;have bO:=gj (yl K9 X H9 (N p9) w6 a4.x);clear a4 bN M5 s5 U R6 s;refine bO.o.mono ?_;rintro e w7 ⟨rfl,rfl⟩;go_wp2;refine ai (v:=Rc #[Q5 (N ⟨G (Q d)+1,0,J⟩),Rh true]) (by simp[results,results24,go_sem]) rfl ?_;exact⟨_,_,rfl,bH.o,bI.o⟩
def JY(w:Q0)(v:Q4)(d:List yo)(j:List Q4):Prop:=O j=O d/\(∃a c,v=Q6 a (O d) c/\O d<=c/\∀(i:Nat) (h:i<O d),∃b o,a=N ⟨b,o,J⟩/\Rn w ⟨b,o+i*6,J⟩=N (I Y d[i].kind)/\Rn w ⟨b,o+i*6+1,J⟩=N (I Y d[i].A)/\Rn w ⟨b,o+i*6+2,J⟩=N (I Y d[i].B)/\Rn w ⟨b,o+i*6+3,J⟩=N (I Y d[i].C)/\Rn w ⟨b,o+i*6+4,J⟩=N (Q7 ⟨d[i].S.toArray⟩)/\Rn w ⟨b,o+i*6+5,J⟩=N (j.getD i (Rh false)))/\∀(i:Nat) (h:i<O d),d[i].mN/\jE w (j.getD i (Rh false)) d[i].iS
def Ad:Prop:=∀{w:Q0} {Z:Nat->Obj->Prop} {b W X A:Nat} {K C:Ve} {t o r g ev:Q4} {mb:Nat} {Ms:List Nat} {n:Nat} {l:Vf} {H:gA} {p:iM} {a:iy} {maybe:Vg} {ever:Vd} {armed:Bool} (s B:Nat) (q:yo) (d:Q4),nH w b Z W X A K C t o r g ev mb Ms n l H (N p) a maybe ever armed->uG n l s B H (N p) a maybe ever armed->H.dp.ir=false->s<=80000->q.mN->(∀w',Q8 b w w'->jE w' d q.iS)->
  Rg prog 128 #[Q5 (N ⟨W,0,J⟩),q.val d] w fun e w'=>e=Ra (Rh true)/\(∃s',s'<=s+40/\Az w' b Z W X n l s')/\Q8 b w w'
theorem xM(br:Ad)(b last:Int)(l:Vf)(rv v:Q4)(m:List yo)(F:List Q4)(w:Q0)(hr:gE w rv 1 (O l) (l.map fun i=>I Y i))(hl:O l<=im)(al:gZ w)(am:kM w)(hv:JY w v m F):
  Rg prog 42 #[I Y b,rv,v,I Y last] w fun e w'=>e=Ra (Rh true)/\Q8 (G (Q w)) w w':=by
 obtain⟨n,hn⟩:∃n:Nat,(n:Int)=min (max b 32) 128:=⟨(min (max b 32) 128).toNat,by omega⟩;have bv:=gj (CG b l rv w (fun _ _=>False) (fun _ _ h=>h.elim) hr hl n hn al am);obtain⟨a9,⟨a,c,rfl,hc,hx⟩,hq⟩:=hv;have HX:=gj hx;have HQ:=gj hq;obtain⟨-,ra,rc,rfl,-,-⟩:=hr;clear hx hq hn al am a9;go_enter func42,ntmps42;go_wp2_with fail;refine bv.o.mono ?_;rintro e w1 ⟨W,X,rfl,ap,av⟩;have bx:=gj ap.at
 have bz:=gj av;clear ap av;go_wp2_with fail;go_loopw [10,11] (fun cc i wr=>∃(k s:Nat),k<=O m/\k<=300/\i=I Y (k:Int)/\s<=40*k/\P9 wr (G (Q w)) (fun _ _=>False) W X n l s/\Q8 (G (Q w)) w wr) (fun _ i _=>O m-(intOf i).toNat)
 case atStart=>exact⟨0,0,aJ _,by omega,rfl,aJ _,bx.o,bz.o⟩
 case round=>
  obtain⟨k,s,hk,cd,rfl,hs,hw,u⟩:=hrel;have HW:=gj hw;have U:=gj u;by_cases aE:k<O m/\k<300
  .obtain⟨a0,b0⟩:=aE;have b1:(k:Int)<(O m:Int):=by omega
   have bO:(k:Int)<300:=by omega
   obtain⟨R,S,rfl,x0,x1,x2,x3,x4,x5⟩:=HX.o k a0;obtain⟨V,a1⟩:=HQ.o k a0;have d0:=(u.cell (p:=⟨R,S+k*6,J⟩) (gK x0)).trans x0;have d1:=(u.cell (p:=⟨R,S+k*6+1,J⟩) (gK x1)).trans x1;have d2:=(u.cell (p:=⟨R,S+k*6+2,J⟩) (gK x2)).trans x2;have d3:=(u.cell (p:=⟨R,S+k*6+3,J⟩) (gK x3)).trans x3;have d4:=(u.cell (p:=⟨R,S+k*6+4,J⟩) (gK x4)).trans x4;have d5:=(u.cell (p:=⟨R,S+k*6+5,J⟩) (gK x5)).trans x5;have bA:=gK d0;have Z:∀w',Q8 (G (Q w)) w w'->jE w' (F.getD k (Rh false)) m[k].iS:=fun w' h=>a1.below h;obtain⟨A,K,C,t,o,r,g,ev,mb,Ms,H,P,ag,maybe,ever,armed,B,d,j⟩:=hw;have a2:=gj (Mh s B m[k] (F.getD k (Rh false)) d j (by omega) V (fun w' h=>Z w' (u.trans h)) fun w1 K1 p e1 e2 e3 e4=>br s B m[k] _ e4 (e1▸j) e3 (by omega) V fun w' h=>Z w' ((u.trans e2).trans h));unfold yo.val at a2;clear x0 x1 x2 x3 x4 x5 V a1 Z d j u;generalize F.getD k (Rh false)=sv at *
   generalize m[k]=q at *
   by_cases ce:last<q.kind
   .go_wp2;go_roundw
    case rel=>exact⟨k+1,s,by omega,by omega,by go_num,by omega,HW.o,U.o⟩
    case measure=>simp[intOf];omega
   .go_wp2_with fail;refine a2.o.mono ?_;rintro e w2 ⟨rfl,⟨s',cg,h2⟩,a4⟩;have bD:=gj h2;have bE:=gj (U.o.trans a4);clear h2 a4 d0 d1 d2 d3 d4 d5 bA;go_wp2;go_roundw
    case rel=>exact⟨k+1,s',by omega,by omega,by go_num,by omega,bD.o,bE.o⟩
    case measure=>simp[intOf];omega
  .have E:(¬(k:Int)<(O m:Int))\/((k:Int)<(O m:Int)/\¬(k:Int)<300):=by omega
   clear aE u;obtain⟨A,K,C,t,o,r,g,ev,mb,Ms,H,P,ag,maybe,ever,armed,B,d,j⟩:=hw;obtain⟨c0,-,-,-,-,ci⟩:=d.cells;have y:=gj (yl K X H P wr d.x);have M:=gj (pF K X H P wr d.x);have a5:=gj (yV d j.st.inv.everD (by have:=j.st.nP.dp.qO.len;omega) (by have:=j.evl;omega));have H1:=gj d;have H2:=gj j;clear d j;cases P with
   | none=>
    simp only[fS]at y;rcases E with h0|⟨h0,h9⟩
    all_goals
     go_wp2_with fail;refine y.o.mono ?_;rintro e w2 ⟨rfl,rfl⟩;go_wp2_with fail;refine a5.o.mono ?_;rintro e w3 ⟨rfl,D⟩;have ak:=gj (U.o.tn D);clear D;go_wp2;go_ret;exact⟨rfl,ak.o⟩
   | some p=>
    simp only[fT]at y;rcases hdd:H.dp.ir with _|_
    case true=>
     rw[hdd]at M;clear hdd;rcases E with h0|⟨h0,h9⟩
     all_goals
      go_wp2_with fail;refine y.o.mono ?_;rintro e w2 ⟨rfl,rfl⟩;go_wp2_with fail;refine M.o.mono ?_;rintro e w2 ⟨rfl,rfl⟩;go_wp2_with fail;refine a5.o.mono ?_;rintro e w3 ⟨rfl,D⟩;have ak:=gj (U.o.tn D);clear D;go_wp2;go_ret;exact⟨rfl,ak.o⟩
    case false=>
     have bI:=gj (uq s B 8 H1.o H2.o hdd (by omega));have bL:=gj (fun w3 (h:Fx (G (Q w)) (fun _ _=>False) W X A C t r ev mb Ms n l H maybe ever armed s B wr w3)=>(by obtain⟨K3,o3,g3,p3,a3,h3,h4,h5⟩:=h;exact(Cj s B h3 h4 hdd).mono fun e w4 h6=>⟨h6.1,U.o.trans (h5.trans h6.2.2)⟩:Rg prog 91 #[Q5 (N ⟨W,0,J⟩)] w3 fun e w'=>e=Ra (Rh true)/\Q8 (G (Q w)) w w'));rw[hdd]at M;clear hdd;rcases E with h0|⟨h0,h9⟩
     all_goals
      go_wp2_with fail;refine y.o.mono ?_;rintro e w2 ⟨rfl,rfl⟩;go_wp2_with fail;refine M.o.mono ?_;rintro e w2 ⟨rfl,rfl⟩;go_wp2_with fail;refine bI.o.mono ?_;rintro e w3 ⟨rfl,a6⟩;have bo:=gj (bL.o w3 a6);clear a6;go_wp2_with fail;refine bo.o.mono ?_;rintro e w4 ⟨rfl,a7⟩;have bN:=gj a7;clear a7;go_wp2;go_ret;exact⟨rfl,bN.o⟩
end Go.Proofs.YtkkfmkhbdoeglabGreatDoor
