/- Lemmas of the proof. No condition. -/
import Derived.Test.YtkkfmkhbdoeglabGreatDoorG27
set_option maxHeartbeats 16000000
set_option maxRecDepth 100000
namespace Go.Proofs.YtkkfmkhbdoeglabGreatDoor
open Go renaming World->Q0,Value->Q4,Calls->Rg,TypeId->Ri
open Go.IntKind renaming i64->Y,u64->Re
open Go.Obj renaming cells->Q1
open Go.RowKit renaming Below->Q8
open Go.Value renaming int->I,pointer->Q5,slice->Q6,string->Q7,tuple->Rc,bool->Rh,ownBlock->Rl
open Go.World renaming heap->Q,cell?->Rn,alloc->Ro,setCell->Rp
open List renaming length->O,toArray->Rm
open Option renaming none->J,some->N
open _root_.Array renaming size->G
open Go.Proofs.Tryz
open Go.RowKit Go.Shelf
variable{B Bb R:Nat}{D:Ve}{bA:iy}{c d dv e f h i j k o' t' v:Q4}{dn:List gw}{tk:iV}{w' w1:Q0}
def Az(w:Q0)(b:Nat)(Z:Nat->Obj->Prop)(W X n:Nat)(l:Vf)(s:Nat):Prop:=∃A K C t o r g ev mb Ms H p a maybe ever armed B,nH w b Z W X A K C t o r g ev mb Ms n l H (N p) a maybe ever armed/\uG n l s B H (N p) a maybe ever armed
theorem uG.mono{n:Nat}{l:Vf}{s t:Nat}{H:gA}{P:Option iM}{a:iy}{maybe:Vg}{ever:Vd}{armed:Bool}(h:uG n l s B H P a maybe ever armed)(b:s<=t):uG n l t B H P a maybe ever armed:=
 ⟨h.st.mono b gH fun _ h=>h,h.iF,by have:=h.evl;omega,by have:=h.B;omega⟩
theorem jW.share{w:Q0}{A n:Nat}{l:Vf}{t o r g:Q4}{a:iy}(h:jW w A n l t o r g a)(y:G (Q w)<=B)(i:gR (fun j=>j=B\/Rl o=N j) w w')(u:nM w' 0 o a.out):jW w' A n l t o r g a:=by have s:=gm h.row;have q:∀j,j<G (Q w)->Rl o≠N j->¬(j=B\/Rl o=N j):=fun j h1 x e=>e.elim (fun e=>by omega) x;exact⟨i.at (q A s h.sepA.2.2.2) h.row,gE.frame h.T fun b e d=>i.block b d (q b d fun m=>(h.sep b m).1 e),u,gE.frame h.room fun b e d=>i.block b d (q b d fun m=>(h.sep b m).2.1 e),gE.frame h.got fun b e d=>i.block b d (q b d fun m=>(h.sep b m).2.2 e),h.sep,h.sepA,fun j e=>ae (h.lt j e) i.size⟩
theorem jW.copy{w:Q0}{A n:Nat}{l:Vf}{t o r g:Q4}{a:iy}{R:Array Q4}(h:jW w A n l t o r g a)(d:R=#[I Re (a.V:Nat),t,o,I Y ((oP a).1:Nat),I Y ((oP a).2:Nat),I Y n,r,Rh a.me.isSome,I Re ((rh a).1:Nat),I Y ((rh a).2:Nat),g])(i:w'=Ro w (Q1 R 53)):jW w' (G (Q w)) n l t o r g a:=by subst d i;have j:Q8 (G (Q w)) w (Ro w (Q1 #[I Re (a.V:Nat),t,o,I Y ((oP a).1:Nat),I Y ((oP a).2:Nat),I Y n,r,Rh a.me.isSome,I Re ((rh a).1:Nat),I Y ((rh a).2:Nat),g] 53)):=(Below.rf w).al _;have b:=h.below j;exact⟨gB _ _,b.T,b.out,b.room,b.got,b.sep,⟨fun e=>by have:=h.lt _ (.inl e);omega,fun e=>by have:=h.lt _ (.inr (.inl e));omega,fun e=>by have:=h.lt _ (.inr (.inr e));omega,fun e=>by have:=gS.iA h.out.own _ e;omega⟩,b.lt⟩
theorem NB{w:Q0}{a b g:Q4}{T:Ri}(l:w.heap[R]?=N (Q1 #[a,b,c,d,e,f,g,h,i,j,k] T (0,0))):Rn w ⟨R,0,J⟩=N a/\Rn w ⟨R,1,J⟩=N b/\Rn w ⟨R,2,J⟩=N c/\Rn w ⟨R,3,J⟩=N d/\Rn w ⟨R,4,J⟩=N e/\Rn w ⟨R,5,J⟩=N f/\Rn w ⟨R,6,J⟩=N g/\Rn w ⟨R,7,J⟩=N h/\Rn w ⟨R,8,J⟩=N i/\Rn w ⟨R,9,J⟩=N j/\Rn w ⟨R,10,J⟩=N k/\R<G (Q w):=
 ⟨gr 0 l,gr 1 l,gr 2 l,gr 3 l,gr 4 l,gr 5 l,gr 6 l,gr 7 l,gr 8 l,gr 9 l,gr 10 l,gm l⟩
theorem Ma(a:iy)(tk:iV)(room:Nat->Int)(n:Nat)(h1:O a.T<=1000000)(b:(tk.T a.T).length<=1000000):(a.jO tk room n).T.length<=1000000:=by
 unfold iy.jO;split
 .rename_i f _;rw[show(a.jZ f).T=a.T from(lN {a with l4:=N f} 18 [UInt8.ofNat f.1]).2.2];exact h1
 .rw[show(iy.oO {a with V:=tk.V,T:=tk.T a.T}).T=tk.T a.T from(lN {a with V:=tk.V,T:=tk.T a.T} 17 (nC tk.V)).2.2];exact b
theorem MN(a:iy)(tk:iV)(room:Nat->Int)(n:Nat):(a.done tk room n).length<=O a.T+(tk.T a.T).length:=by
 unfold iy.done;split
 .exact aJ _
 .rw[aB];exact zB _ _
theorem PE{w:Q0}{a b g:Q4}{T:Ri}(l:w.heap[R]?=N (Q1 #[a,b,c,d,e,f,g,h,i,j,k] T (0,0))):w.frozen? ⟨R,0,J⟩=false/\w.frozen? ⟨R,1,J⟩=false/\w.frozen? ⟨R,2,J⟩=false/\w.frozen? ⟨R,3,J⟩=false/\w.frozen? ⟨R,4,J⟩=false/\w.frozen? ⟨R,5,J⟩=false/\w.frozen? ⟨R,6,J⟩=false/\w.frozen? ⟨R,7,J⟩=false/\w.frozen? ⟨R,8,J⟩=false/\w.frozen? ⟨R,9,J⟩=false/\w.frozen? ⟨R,10,J⟩=false:=
 ⟨gD 0 l,gD 1 l,gD 2 l,gD 3 l,gD 4 l,gD 5 l,gD 6 l,gD 7 l,gD 8 l,gD 9 l,gD 10 l⟩
theorem oI{w:Q0}{o:Obj}(b:Q8 (G (Q w)) w w')(h:w.heap[R]?=N o):w'.heap[R]?=N o:=gC b (gm h) h
theorem wK{H:gA}(h:H.dp.iF=[]):({H with dp:={H.dp with iF:=[]}} : gA)=H:=by obtain⟨d,i,j,l,m,b⟩:=H;obtain⟨o,q,r,s,u⟩:=b;simp only at h;subst h;rfl
theorem J2.ext{l:Q0}{x:Option iV}(h:J2 l w1 v x)(i:gR D w1 w')(q:∀j,G (Q l)<=j->j<G (Q w1)->¬D j):J2 l w' v x:=by
 match x,h with
 | none,h=>exact h
 | some (.delta m os),⟨s,h,o⟩=>exact⟨s,h,o.frame i.size fun b e d=>i.block b d (q b (o.ie b e) (o.iA b e))⟩
 | some (.nG m T),⟨tv,h,u,d⟩=>exact⟨tv,h,gE.frame u fun b e r=>i.block b r (q b (d b e).1 (d b e).2),fun j e=>⟨(d j e).1,ae (d j e).2 i.size⟩⟩
theorem J2.owns{d:Q0}(h:J2 d w1 v (N tk)):∀j,Dh v j->G (Q d)<=j/\j<G (Q w1):=by
 rintro j ⟨b,s,u,x,tv,rfl,i⟩
 match tk,h with
 | .delta m os,⟨q,h,l⟩=>simp only[fN,fX,ep,Value.bool.injEq,Value.int.injEq,true_and]at h;obtain⟨-,-,-,-,rfl,-⟩:=h;simp[Value.ownBlock]at i
 | .nG m T,⟨r,h,l,o⟩=>simp only[fN,fX,ep,Value.bool.injEq,Value.int.injEq,true_and]at h;obtain⟨-,-,-,-,rfl,-⟩:=h;exact o j i
theorem Ej.nP{a1:iy}(h:Ej a1 tk):tk.nm:=by
 have b:=h.v;cases tk with
 | delta m os=>exact⟨by have:m<18446744073709551615:=b;omega,h.iS m os rfl⟩
 | nG m T=>show m<_;have:m<18446744073709551615:=b;omega
structure zP(w:Q0)(K C:Ve)(A W b n:Nat)(l:Vf)(o r g ev:Q4)(Bb:Nat)(t' o':Q4)(bA:iy)(dv:Q4)(dn:List gw):Prop where
 rg:jW w Bb n l t' o' r g bA
 cB:K Bb/\Bb≠A/\Bb≠W/\Rl o≠N Bb/\Rl ev≠N Bb
 ct:∀j,Rl t'=N j->K j/\j≠A/\j≠W/\Rl o≠N j/\Rl ev≠N j
 co:∀j,Rl o'=N j->K j/\b<=j/\¬C j
 dvs:gE w dv 1 (O dn) (jr dn)
 cd:∀j,Rl dv=N j->K j/\j≠A/\j≠W/\Rl ev≠N j
theorem zP.ext{w:Q0}{Z:Nat->Obj->Prop}{b W X A:Nat}{K K' C:Ve}{t o r g ev ev':Q4}{mb:Nat}{Ms:List Nat}{n:Nat}{l:Vf}{H:gA}{P:Option iM}{a:iy}{maybe:Vg}{ever:Vd}{armed:Bool}(h:zP w K C A W b n l o r g ev Bb t' o' bA dv dn)(d:nH w b Z W X A K C t o r g ev mb Ms n l H P a maybe ever armed)(E:gR D w w')(hD:∀j,K j->D j->j=W\/Rl ev=N j)(hK:∀j,K j->K' j)(he:∀j,Rl ev'=N j->Rl ev=N j\/G (Q w)<=j):zP w' K' C A W b n l o r g ev' Bb t' o' bA dv dn:=by
 have F:=d.x.lt;have m:∀j,K j->Rl ev≠N j->Rl ev'≠N j:=fun j hk i e=>(he j e).elim i fun e=>by have:=F j hk;omega
 have u:∀j,Rl o'=N j->j≠W/\Rl ev≠N j:=fun j e=>⟨fun y=>h.rg.out.typ.ne d.row (by decide) (by rw[e,y]),fun y=>by obtain⟨Cs,f,hC⟩:=d.evT j y;exact h.rg.out.typ.ne hC (by decide) e⟩;have i:∀j,K j->j≠W->Rl ev≠N j->¬D j:=fun j h1 q s hd=>(hD j h1 hd).elim q s;have M:jW w' Bb n l t' o' r g bA:=h.rg.ext E (i _ h.cB.1 h.cB.2.2.1 h.cB.2.2.2.2) fun j e=>by
  rcases e with e|e|e|e
  .exact i j (h.ct j e).1 (h.ct j e).2.2.1 (h.ct j e).2.2.2.2
  .exact i j (h.co j e).1 (u j e).1 (u j e).2
  .have:=d.c j (d.cr j e);exact i j this.1 this.2.2.1 this.2.2.2.2
  .exact i j (d.cg j e).1 (d.cg j e).2.1 (d.cg j e).2.2
 have R:gE w' dv 1 (O dn) (jr dn):=gE.frame h.dvs fun j e hj=>E.block j hj (i j (h.cd j e).1 (h.cd j e).2.2.1 (h.cd j e).2.2.2);have S:∀j,Rl t'=N j->K' j/\j≠A/\j≠W/\Rl o≠N j/\Rl ev'≠N j:=fun j e=>by obtain⟨h1,q,s,B,h5⟩:=h.ct j e;exact⟨hK j h1,q,s,B,m j h1 h5⟩
 have U:∀j,Rl dv=N j->K' j/\j≠A/\j≠W/\Rl ev'≠N j:=fun j e=>by obtain⟨h1,q,s,B⟩:=h.cd j e;exact⟨hK j h1,q,s,m j h1 B⟩
 obtain⟨V,b2,b3,b4,b5⟩:=h.cB;exact⟨M,⟨hK Bb V,b2,b3,b4,m Bb V b5⟩,S,fun j e=>⟨hK j (h.co j e).1,(h.co j e).2⟩,R,U⟩
def Hc(w:Q0)(R:Nat)(a b c d e f g h i j k:Q4):Q0:=((((((((((Rp w ⟨R,0,J⟩ a).setCell ⟨R,1,J⟩ b).setCell ⟨R,2,J⟩ c).setCell ⟨R,3,J⟩ d).setCell ⟨R,4,J⟩ e).setCell ⟨R,5,J⟩ f).setCell ⟨R,6,J⟩ g).setCell ⟨R,7,J⟩ h).setCell ⟨R,8,J⟩ i).setCell ⟨R,9,J⟩ j).setCell ⟨R,10,J⟩ k
theorem NF{w:Q0}{a b g:Q4}{T:Ri}{x:Nat×Nat}(y:w.heap[R]?=N (Q1 #[a,b,c,d,e,f,g,h,i,j,k] T x))(a' l c' d' m o g' q r s u:Q4):(Hc w R a' l c' d' m o g' q r s u).heap[R]?=N (Q1 #[a',l,c',d',m,o,g',q,r,s,u] T x):=by have B:=QN _ _ 10 u (QN _ _ 9 s (QN _ _ 8 r (QN _ _ 7 q (QN _ _ 6 g' (QN _ _ 5 o (QN _ _ 4 m (QN _ _ 3 d' (QN _ _ 2 c' (QN _ _ 1 l (QN _ _ 0 a' y))))))))));exact B.trans (by simp)
theorem LM(w:Q0)(R:Nat)(a b c d e f g h i j k:Q4):gR (fun x=>x=R) w (Hc w R a b c d e f g h i j k):=
 (((((((((((gR.refl (fun x=>x=R) w).setCell ⟨R,0,J⟩ _ (.inl rfl)).setCell ⟨R,1,J⟩ _ (.inl rfl)).setCell ⟨R,2,J⟩ _ (.inl rfl)).setCell ⟨R,3,J⟩ _ (.inl rfl)).setCell ⟨R,4,J⟩ _ (.inl rfl)).setCell ⟨R,5,J⟩ _ (.inl rfl)).setCell ⟨R,6,J⟩ _ (.inl rfl)).setCell ⟨R,7,J⟩ _ (.inl rfl)).setCell ⟨R,8,J⟩ _ (.inl rfl)).setCell ⟨R,9,J⟩ _ (.inl rfl)).setCell ⟨R,10,J⟩ _ (.inl rfl)
theorem Ow{w:Q0}{o:Obj}(h:w.heap[R]?=N o):w.drew.heap[R]?=N o:=h
theorem Jz{w:Q0}{a b g a' l c' d' m o g' q r s u:Q4}{T:Ri}{y:Nat×Nat}(B:w.heap[R]?=N (Q1 #[a,b,c,d,e,f,g,h,i,j,k] T y))(C:w'=(Hc w R a' l c' d' m o g' q r s u).drew):gR (fun x=>x=R) w w'/\w'.heap[R]?=N (Q1 #[a',l,c',d',m,o,g',q,r,s,u] T y):=by subst C;exact⟨(LM w R a' l c' d' m o g' q r s u).drew,Ow (NF B a' l c' d' m o g' q r s u)⟩
theorem zP.QA{w:Q0}{Z:Nat->Obj->Prop}{b W X A:Nat}{K C:Ve}{t o r g ev:Q4}{mb u:Nat}{Ms:List Nat}{n:Nat}{l:Vf}{H:gA}{P:Option iM}{a:iy}{maybe:Vg}{ever:Vd}{armed:Bool}(h:zP w K C A W b n l o r g ev Bb t' o' bA dv dn)(d:nH w b Z W X A K C t o r g ev mb Ms n l H P a maybe ever armed)(B:gR (fun j=>j=A\/j=W) w w')(ag:w'.heap[A]?=N (Q1 #[I Re (bA.V:Nat),t',o',I Y ((oP bA).1:Nat),I Y ((oP bA).2:Nat),I Y n,r,Rh bA.me.isSome,I Re ((rh bA).1:Nat),I Y ((rh bA).2:Nat),g] 53 (0,0)))(aa:w'.heap[W]?=N (Q1 #[Q5 (N ⟨X,0,J⟩),Q5 (N ⟨A,0,J⟩),Q6 (N ⟨u,0,J⟩) 1 1,ev,Rh armed] 58 (0,0)))(hr:w'.heap[u]?=N (Q1 #[Q5 (N ⟨A,0,J⟩)] 55 (0,0)))(al:G (Q w)<=u):
  nH w' b Z W X A (Kn K w w') (fun j=>(C j\/Rl t'=N j)\/j=u) t' o' r g ev u [A] n l H P bA [(bA.V,bA.T)] ever armed/\gE w' dv 1 (O dn) (jr dn)/\(∀j,Rl dv=N j->Kn K w w' j)/\Q8 b w w':=by
 obtain⟨n1,n4,F⟩:=d.ne;have D:=d.x.lt;have y:∀j,Rl o'=N j->j≠W/\j≠A/\Rl ev≠N j:=fun j e=>⟨fun s=>h.rg.out.typ.ne d.row (by decide) (by rw[e,s]),fun s=>h.rg.out.typ.ne d.rg.row (by decide) (by rw[e,s]),fun s=>by obtain⟨Cs,f,hC⟩:=d.evT j s;exact h.rg.out.typ.ne hC (by decide) e⟩;have hblk:∀j,j<G (Q w)->j≠A->j≠W->w'.heap[j]?=w.heap[j]?:=fun j h1 h2 h3=>B.block j h1 fun e=>e.elim h2 h3;have S:∀j,Rl g=N j->j≠A:=fun j e s=>d.rg.sepA.2.2.1 (by rw[e,s]);have U:jW w' A n l t' o' r g bA:=by refine⟨ag,gE.frame h.rg.T fun j e q=>hblk j q (h.ct j e).2.1 (h.ct j e).2.2.1,⟨h.rg.out.own.frame B.size fun j e q=>hblk j q (y j e).2.1 (y j e).1,h.rg.out.typ.frame fun j e q=>hblk j q (y j e).2.1 (y j e).1⟩,gE.frame h.rg.room fun j e q=>hblk j q (d.c j (d.cr j e)).2.1 (d.c j (d.cr j e)).2.2.1,gE.frame h.rg.got fun j e q=>hblk j q (S j e) (d.cg j e).2.1,h.rg.sep,⟨fun e=>(h.ct A e).2.1 rfl,fun e=>(d.c A (d.cr A e)).2.1 rfl,fun e=>S A e rfl,fun e=>(y A e).2.1 rfl⟩,fun j e=>ae (h.rg.lt j e) B.size⟩
 have hX:=d.x.grow B fun k e=>e.elim (fun e=>by rw[e];exact⟨d.kA.1,au d.b2 d.kA.2⟩) fun e=>by rw[e];exact⟨d.kW.1,au d.b2 d.kW.2⟩
 have ap:=gm hr;refine⟨⟨aa,hr,rfl,by simp,fun i M m E s=>?_,U,hX,d.evo.frame B.size fun j e q=>hblk j q (F j e).2 (F j e).1,d.evT.frame fun j e q=>hblk j q (F j e).2 (F j e).1,⟨.inl d.kW.1,d.kW.2⟩,⟨.inl d.kA.1,d.kA.2⟩,fun j e=>.inl (.inr e),fun j e=>.inl (.inl (d.cr j e)),.inr rfl,fun j e=>⟨.inl (d.cg j e).1,(d.cg j e).2⟩,fun j e=>⟨.inl (h.co j e).1,(h.co j e).2.1⟩,fun j e=>.inl (d.kev j e),fun j q=>?_,fun k hk=>.inl (d.kb k hk),d.b2,fun j x R=>⟨.inl (.inl (d.z j x R).1),B.at (fun e=>e.elim (d.c j (d.z j x R).1).2.1 (d.c j (d.z j x R).1).2.2.1) (d.z j x R).2⟩⟩,gE.frame h.dvs fun j e q=>hblk j q (h.cd j e).2.1 (h.cd j e).2.2.1,fun j e=>.inl (h.cd j e).1,B.below d.lt fun k hk e=>?_⟩
 .match i,E,s with
  | 0,E,s=>simp only[aY,dz]at E s;subst E s;exact⟨wH.self U fun j e=>.inl (.inr e),fun _=>rfl⟩
  | i+1,E,s=>simp at E
 .rcases q with (q|q)|rfl
  .obtain⟨c1,c2,c3,c4,c5⟩:=d.c j q;exact⟨.inl c1,c2,c3,fun e=>(h.co j e).2.2 q,c5⟩
  .obtain⟨c1,c2,c3,c4,c5⟩:=h.ct j q;exact⟨.inl c1,c2,c3,fun e=>(h.rg.sep j e).1 q,c5⟩
  .refine⟨.inr ⟨al,ap⟩,fun e=>?_,fun e=>?_,fun e=>?_,fun e=>?_⟩
   .have:=D A d.kA.1;omega
   .have:=D W d.kW.1;omega
   .have:=D _ (h.co _ e).1;omega
   .have:=D _ (d.kev _ e);omega
 .have h1:=d.kA.2;have h2:=d.kW.2;rcases e with e|e<;>omega
theorem zP.new{w3 u w5:Q0}{Z:Nat->Obj->Prop}{b W X A:Nat}{K C:Ve}{t o r g ev:Q4}{mb:Nat}{Ms:List Nat}{n:Nat}{l:Vf}{H:gA}{P:Option iM}{a:iy}{maybe:Vg}{ever:Vd}{armed:Bool}(h:nH w3 b Z W X A K C t o r g ev mb Ms n l H P a maybe ever armed)(U:Bb=G (Q w3))(S:G (Q w3)<G (Q u))(y:∀j,Dh v j->K j/\j≠A/\j≠W/\Rl o≠N j/\Rl ev≠N j)(q:jW w5 Bb n l t' o' r g bA)(D:∀j,Rl o'=N j->Rl o=N j\/G (Q u)<=j)(E:∀j,Rl t'=N j->Rl t=N j\/Dh v j\/G (Q u)<=j)(B:gE w5 dv 1 (O dn) (jr dn))(s:∀j,Rl dv=N j->G (Q u)<=j/\j<G (Q w5)):zP w5 (Kn K w3 w5) C A W b n l o r g ev Bb t' o' bA dv dn:=by
 have m:=h.x.lt;have d:∀j,G (Q w3)<=j->j≠A/\j≠W/\Rl o≠N j/\Rl ev≠N j/\¬C j:=fun j V=>⟨fun e=>by have:=m A h.kA.1;omega,fun e=>by have:=m W h.kW.1;omega,fun e=>by have:=m j (h.ko j e).1;omega,fun e=>by have:=m j (h.kev j e);omega,fun e=>by have:=m j (h.c j e).1;omega⟩;obtain⟨F,b2,M,R,-⟩:=d Bb (by omega);refine⟨q,⟨.inr ⟨by omega,gm q.row⟩,F,b2,M,R⟩,fun j e=>?_,fun j e=>?_,B,fun j e=>?_⟩
 .rcases E j e with i|i|i
  .obtain⟨c1,c2,c3,c4,c5⟩:=h.c j (h.ct j i);exact⟨.inl c1,c2,c3,c4,c5⟩
  .obtain⟨c1,c2,c3,c4,c5⟩:=y j i;exact⟨.inl c1,c2,c3,c4,c5⟩
  .obtain⟨c2,c3,c4,c5,-⟩:=d j (by omega);exact⟨.inr ⟨by omega,q.lt j (.inl e)⟩,c2,c3,c4,c5⟩
 .rcases D j e with i|i
  .exact⟨.inl (h.ko j i).1,(h.ko j i).2,fun hc=>(h.c j hc).2.2.2.1 i⟩
  .exact⟨.inr ⟨by omega,gS.iA q.out.own j e⟩,by have:=h.lt;omega,(d j (by omega)).2.2.2.2⟩
 .obtain⟨c2,c3,c4,c5,-⟩:=d j (by have:=(s j e).1;omega);exact⟨.inr ⟨by have:=(s j e).1;omega,(s j e).2⟩,c2,c3,c5⟩
theorem zP.may{w:Q0}{Z:Nat->Obj->Prop}{b W X A:Nat}{K C:Ve}{t o r g ev:Q4}{mb d:Nat}{Ms:List Nat}{n:Nat}{l:Vf}{H:gA}{P:Option iM}{a:iy}{maybe:Vg}{ever:Vd}{armed:Bool}(h:zP w K C A W b n l o r g ev Bb t' o' bA dv dn)(y:nH w b Z W X A K C t o r g ev mb Ms n l H P a maybe ever armed)(E:gR (fun j=>j=W) w w')(D:w'.heap[W]?=N (Q1 #[Q5 (N ⟨X,0,J⟩),Q5 (N ⟨A,0,J⟩),Q6 (N ⟨d,0,J⟩) 2 2,ev,Rh armed] 58 (0,0)))(R:w'.heap[d]?=N (Q1 #[Q5 (N ⟨A,0,J⟩),Q5 (N ⟨Bb,0,J⟩)] 55 (0,0)))(F:G (Q w)<=d):
  nH w' b Z W X A (Kn K w w') (fun j=>(C j\/j=Bb\/Rl t'=N j)\/j=d) t o r g ev d [A,Bb] n l H P a [(a.V,a.T),(bA.V,bA.T)] ever armed/\zP w' (Kn K w w') (fun j=>(C j\/j=Bb\/Rl t'=N j)\/j=d) A W b n l o r g ev Bb t' o' bA dv dn/\Q8 b w w':=by
 have hm:∀(i M:Nat) m,[A,Bb][i]?=N M->[(a.V,a.T),(bA.V,bA.T)][i]?=N m->wH w (fun j=>C j\/j=Bb\/Rl t'=N j) n r A M m/\(M=A->m=(a.V,a.T)):=fun i M m q s=>by
  match i,q,s with
  | 0,q,s=>simp only[aY,dz]at q s;subst q s;exact⟨wH.self y.rg fun j e=>.inl (y.ct j e),fun _=>rfl⟩
  | 1,q,s=>simp only[aX,aY,dz]at q s;subst q s;exact⟨⟨.inl (.inr (.inl rfl)),t',_,_,_,_,_,_,_,h.rg.row,h.rg.T,fun j e=>.inr (.inr e)⟩,fun e=>absurd e h.cB.2.1⟩
  | i+2,q,s=>simp at q
 obtain⟨h1,S⟩:=y.QB (Ms':=[A,Bb]) E D R F rfl (aq 2) hm (fun j=>.inl) fun j B=>by
  rcases B with B|rfl|B
  .exact y.c j B
  .exact h.cB
  .exact h.ct j B
 have u:=h.ext (K':=Kn K w w') (ev':=ev) y E (fun j _ e=>.inl e) (fun _=>.inl) fun _=>.inl;refine⟨h1,⟨u.rg,u.cB,u.ct,fun j e=>⟨(u.co j e).1,(u.co j e).2.1,fun hc=>?_⟩,u.dvs,u.cd⟩,S⟩;rcases hc with (hc|rfl|hc)|rfl
 .exact(u.co j e).2.2 hc
 .exact h.rg.sepA.2.2.2 e
 .exact(h.rg.sep j e).1 hc
 .have:=y.x.lt j (h.co j e).1;omega
def O7(w d:Q0)(b:Nat)(Z:Nat->Obj->Prop)(W X A:Nat)(t o r g:Q4)(n:Nat)(l:Vf)(H':gA)(p':iM)(a1:iy)(armed:Bool)(s Bb:Nat)(t' o':Q4)(bA:iy)(dv:Q4)(dn:List gw):Prop:=
 ∃K C ev mb Ms maybe ever i,nH d b Z W X A K C t o r g ev mb Ms n l H' (N p') a1 maybe ever armed/\zP d K C A W b n l o r g ev Bb t' o' bA dv dn/\Q8 b w d/\p'.a=bA/\
  (p'.a=bA/\H'.dp.S=bA.T/\bA.mN/\(∀f,bA.l4=N f->1<=f.1/\f.1<=14/\p'.nQ<=100000/\(f.1=12↔1<=p'.nQ))/\(bA.l4=J->p'.nQ=0/\[(bA.V,bA.T)]=[(bA.V,bA.T)])/\ng n (gY l) bA.V bA.T)/\H'.dp.iF=dn/\uG n l (s+2) i {H' with dp:={H'.dp with iF:=[]}} (N p') bA [(bA.V,bA.T)] ever armed
section
variable {w:Q0} {Z:Nat->Obj->Prop} {b W X A:Nat} {K C:Ve} {t o r g ev:Q4} {mb:Nat} {Ms:List Nat} {n:Nat} {l:Vf} {H:gA} {P:Option iM} {p:iM} {a:iy} {maybe:Vg} {ever:Vd} {armed:Bool}
theorem JN(s B:Nat)(frame:gw)(h:nH w b Z W X A K C t o r g ev mb Ms n l H (N p) a maybe ever armed)(hs:uG n l s B H (N p) a maybe ever armed)(hd:H.dp.ir=false)(bI:s<=90000)(bL:O frame<=4096)(a1:iy)(u:a.taken frame=(a1,J))(y:Rg prog 29 #[Q5 (N ⟨A,0,J⟩),Q7 ⟨Rm frame⟩] w (sV w A n l t o r g (a.taken frame))):
  Rg prog 126 #[Q5 (N ⟨W,0,J⟩),Q7 ⟨Rm frame⟩] w fun e w'=>e=.returned (Rh true)/\Az w' b Z W X n l (s+2)/\Q8 b w w':=by
 obtain⟨rfl,u2,u3,u4,-,u6⟩:=hs.up hd;obtain⟨H1,i⟩:∃H1:gA,H1={H with il:=0}:=⟨_,rfl⟩;have q:=hs.uX;have j:H1.dp.ir=false:=by rw[i];exact hd
 have m:H1.il=0:=by rw[i]
 rw[<-i]at q;obtain⟨g1,g2,g3,g4⟩:=Lc q j u;have a2:=q.ready j (by omega);rw[u]at y;have a3:=gj y;have bl:=gj g1;have bn:=gj g2;have D:=gj (And.intro g3 g4);have bo:=gj a2;have HH:=gj h;have br:=gj (g2.up j);have a4:=gj (g2.iF rfl j);have bE:¬(4096:Int)<(O frame:Int):=by omega
 obtain⟨-,c1,-,-,-,d⟩:=h.cells;have bs:=gj i;have bt:=gj m;clear h hs hd j q m i u2 u3 u4 u6 g1 g2 g3 g4 a2 y u;go_enter func126,ntmps126;go_wp2_with fail;refine a3.o.mono ?_;rintro e w1 ⟨v,rfl,rfl,a5,-⟩;obtain⟨o1,bM,m,a6⟩:=HH.o.ref a5 D.o.1 D.o.2;have E:=gj m;have a7:=gj a6;clear a5 m a6 c1 d a3;have F:Q8 (G (Q w1)) w1 (Ro w1 (Q1 #[Rh false,I Re 0,I Re 0,Q6 J 0 0,Q6 J 0 0] 65)):=(Below.rf w1).al _;go_upto_region 4 with fail;generalize Ro w1 (Q1 #[Rh false,I Re 0,I Re 0,Q6 J 0 0,Q6 J 0 0] 65)=w2 at *
 have M:=gj (E.o.grow F);have bv:=gj (a7.o.trans (F.mono E.o.lt));clear F E a7;obtain⟨c0,-,-,-,-,d⟩:=M.o.cells;go_wp2_with fail;refine(vB _ X H (N p) w2 M.o.x).mono ?_;rintro e w3 ⟨rfl,R,S⟩;rw[<-bs.o]at R;have U:=gj (M.o.kQ S R);have bw:=gj (bv.o.trans (S.below M.o.lt M.o.kb));clear R S c0 d;obtain⟨c0,-,-,-,-,d⟩:=U.o.cells;go_wp2_with fail;refine(yk _ X _ p w3 frame U.o.x bo.o (by omega)).mono ?_;rintro e w4 ⟨rfl,V,aa⟩;rw[bl.o]at V;have H4:=gj (U.o.kQ aa V);have bx:=gj (bw.o.trans (aa.below U.o.lt U.o.kb));clear V aa c0 d;go_wp2_with fail;refine(qz H4.o rfl br.o.2.2.2.1).mono ?_;rintro e w5 ⟨rfl,ag⟩;have H5:=gj (H4.o.below ag);have bz:=gj (bx.o.trans (ag.mono H4.o.lt));clear ag;obtain⟨c0,-,-,-,-,d⟩:=H5.o.cells;go_wp2_with fail;refine(vA _ X _ _ w5 H5.o.x).mono ?_;rintro e w6 ⟨lv,rfl,a8,am,ap⟩;rw[a4.o]at a8;obtain⟨-,la,lc,rfl,-,-⟩:=a8;rw[wK a4.o]at am;have H6:=gj (H5.o.kQ ap am);have bA:=gj (bz.o.trans (ap.below H5.o.lt H5.o.kb));clear am ap c0 d;obtain⟨c0,-,-,-,-,d⟩:=H6.o.cells;go_wp2_with fail;have a9:=gj (vB _ X _ _ w6 H6.o.x);rw[bt.o]at a9;refine a9.o.mono ?_;rintro e w7 ⟨rfl,ba,aE⟩;have a0:Az w7 b Z W X n l (s+2)/\Q8 b w w7:=⟨⟨_,_,_,_,_,_,_,_,_,_,_,_,_,_,_,_,_,H6.o.kQ aE ba,bn.o.uX⟩,bA.o.trans (aE.below H6.o.lt H6.o.kb)⟩;have bk:=gj a0;clear ba aE c0 d a0;go_wp2;go_ret;exact⟨rfl,bk.o⟩
theorem JO(s B:Nat)(frame:gw)(h:nH w b Z W X A K C t o r g ev mb Ms n l H (N p) a maybe ever armed)(m9:uG n l s B H (N p) a maybe ever armed)(nr:H.dp.ir=false)(l1:s<=90000)(l2:O frame<=4096)(a1:iy)(tk:iV)(e0:a.taken frame=(a1,N tk))(e1:Rg prog 29 #[Q5 (N ⟨A,0,J⟩),Q7 ⟨Rm frame⟩] w (sV w A n l t o r g (a.taken frame))):
  Rg prog 126 #[Q5 (N ⟨W,0,J⟩),Q7 ⟨Rm frame⟩] w fun e w'=>e=.returned (Rh true)/\Az w' b Z W X n l (s+2)/\Q8 b w w':=by
 obtain⟨rfl,u2,u3,u4,-,u6⟩:=m9.up nr;obtain⟨H1,cv⟩:∃H1:gA,H1={H with il:=0}:=⟨_,rfl⟩;have c5:=m9.uX;have c6:H1.dp.ir=false:=by rw[cv];exact nr
 rw[<-cv]at c5;obtain⟨g1,g2,g3,g4,g5,g6,g7⟩:=Ld c5 c6 (by omega) e0;have no:=m9.st.n32;have g9:=c5.ready c6 (by omega);have h6:=gj cv;have hb:=gj c6;rw[e0]at e1;have hd:=gj e1;have bE:=gj g7;have e2:=gj (And.intro g1 g2);have h7:=gj g9;have HH:=gj h;have hf:=gj g5;have c7:=gj g6;have e4:=gj (show ng n (gY l) a1.V a1.T by rw[g1,g2];exact u6);have k6:=m9.evl;have h8:gy (∀j,Rl o=N j->j<G (Q w)):=gj (gS.iA h.rg.out.own);have k7:¬(4096:Int)<(O frame:Int):=by omega
 obtain⟨-,c1,-,-,-,d⟩:=h.cells;obtain⟨bA,bH⟩:∃bA,bA=a1.jO tk (gY l) n:=⟨_,rfl⟩;obtain⟨dn,c8⟩:∃dn,dn=a1.done tk (gY l) n:=⟨_,rfl⟩;rw[<-bH,<-c8]at bE;have h9:=gj bH;have ia:=gj c8;have hg:bA.mN:=by rw[bH];exact g5.jO tk (gY l) n g6.v
 have ib:gy (O dn<=1000000):=gj (by rw[c8];have:=MN a1 tk (gY l) n;rw[g2]at this;have:=u6.len;have:=g6.len;rw[g2]at this;omega);have ic:gy (O bA.T<=1000000):=gj (by rw[bH];exact Ma a1 tk (gY l) n (by rw[g2];have:=u6.len;omega) (by have:=g6.len;omega));have l3:=gj hg;clear h m9 c5 c6 cv nr u2 u3 u4 u6 g1 g2 g3 g4 g5 g6 g7 g9 e1 e0 bH c8 hg;go_enter func126,ntmps126;go_wp2_with fail;refine hd.o.mono ?_;rintro e w1 ⟨v,rfl,e5,c9,hh⟩;obtain⟨n0,e6,hi⟩:=hh rfl;obtain⟨o1,gx,-,e7,-,-⟩:=c9;obtain⟨hj,hl⟩:=HH.o.Nz e6 e7 (fun j e=>.inl e) hi e2.o.1 e2.o.2;obtain⟨b0,m1,m2,M,n1,m7,q2,n2,m8,rfl⟩:=e5.agg;have e8:=gj hj;have hn:=gj hl;have da:=gj e5;have la:=e7.size;clear e7 hj hl c1 d hd e5 hh e6 hi;have bI:Q8 (G (Q w1)) w1 (Ro w1 (Q1 #[Rh b0,I Re m1,I Re m2,Q6 M n1 m7,Q6 q2 n2 m8] 65)):=(Below.rf w1).al _;have T2:=gB w1 (Q1 #[Rh b0,I Re m1,I Re m2,Q6 M n1 m7,Q6 q2 n2 m8] 65);have e9:G (Q w1)<(Ro w1 (Q1 #[Rh b0,I Re m1,I Re m2,Q6 M n1 m7,Q6 q2 n2 m8] 65)).heap.size:=gm T2;go_upto_region 4 with fail;generalize Ro w1 (Q1 #[Rh b0,I Re m1,I Re m2,Q6 M n1 m7,Q6 q2 n2 m8] 65)=w2 at *
 have H2:=gj (e8.o.grow bI);have ho:=gj (hn.o.trans (bI.mono e8.o.lt));obtain⟨c0,-,-,-,-,d⟩:=H2.o.cells;go_wp2_with fail;refine(vB _ X H (N p) w2 H2.o.x).mono ?_;rintro e w3 ⟨rfl,fb,br⟩;rw[<-h6.o]at fb;have hp:=H2.o.kQ br fb;have hr:=gj (ho.o.trans (br.below H2.o.lt H2.o.kb));have fd:=gj ((da.o.ext (gR.gO (S:=fun _=>False) bI) fun _ _ _ e=>e).ext br fun j h1 nk e=>e (by
  by_cases h3:j<G (Q w1)
  .exact .inl (.inr ⟨h1,h3⟩)
  .exact .inr ⟨by omega,nk⟩))
 have T3:=br.at (.inr ⟨aq _,e9⟩) T2;have ld:G (Q w1)<=G (Q w3):=au bI.size br.size;have fi:gy (∀j,Dh (.agg #[Rh b0,I Re m1,I Re m2,Q6 M n1 m7,Q6 q2 n2 m8]) j->(Kn (Kn K w w1) w1 w2) j/\j≠A/\j≠W/\Rl o≠N j/\Rl ev≠N j):=gj (fun j m4=>by obtain⟨z1,z2⟩:=da.o.owns j m4;have fl:=HH.o.x.lt;exact⟨.inl (.inr ⟨z1,z2⟩),fun e=>by have:=fl A HH.o.kA.1;omega,fun e=>by have:=fl W HH.o.kW.1;omega,fun e=>by have:=h8.o j e;omega,fun e=>by have:=fl j (HH.o.kev j e);omega⟩);have hs:=gj (fun j m4=>(da.o.owns j m4:G (Q w)<=j/\j<G (Q w1)));clear fb br c0 d bI T2 e9 e8 hn da;generalize Kn (Kn K w w1) w1 w2=K2 at *
 obtain⟨TB,fn⟩:∃TB,TB=G (Q w1):=⟨_,rfl⟩;rw[<-fn]at T3⊢;have H3:=gj hp;have ht:=gj T3;have io:=gj fn;clear hp T3 fn H2;obtain⟨-,c1,-,-,-,d⟩:=H3.o.cells;obtain⟨-,ta,tc,rfl,-,-⟩:=H3.o.rg.T;obtain⟨oa,oc,rfl⟩:=H3.o.rg.out.own.shape;obtain⟨-,ra,rc,rfl,-,-⟩:=H3.o.rg.room;obtain⟨-,m5,gc,rfl,-,-⟩:=H3.o.rg.got;obtain⟨nv,ip,a2,a3,a4,a5,nw,a7,nx,a9,iv,fo⟩:=NB H3.o.rg.row;have a8:=H3.o.rg.copy rfl rfl;have dc:Q8 (G (Q w3)) w3 (Ro w3 (Q1 #[I Re (a1.V:Nat),Q6 ta (O a1.T) tc,Q6 oa (O a1.out) oc,I Y ((oP a1).1:Nat),I Y ((oP a1).2:Nat),I Y n,Q6 ra 3 rc,Rh a1.me.isSome,I Re ((rh a1).1:Nat),I Y ((rh a1).2:Nat),Q6 m5 (te a1).length gc] 53)):=(Below.rf w3).al _;have fp:G (Q w3)<(Ro w3 (Q1 #[I Re (a1.V:Nat),Q6 ta (O a1.T) tc,Q6 oa (O a1.out) oc,I Y ((oP a1).1:Nat),I Y ((oP a1).2:Nat),I Y n,Q6 ra 3 rc,Rh a1.me.isSome,I Re ((rh a1).1:Nat),I Y ((rh a1).2:Nat),Q6 m5 (te a1).length gc] 53)).heap.size:=gm a8.row;go_upto_region 9 with fail;clear c1 d nv ip a2 a3 a4 a5 nw a7 nx a9 iv fo;generalize Ro w3 (Q1 #[I Re (a1.V:Nat),Q6 ta (O a1.T) tc,Q6 oa (O a1.out) oc,I Y ((oP a1).1:Nat),I Y ((oP a1).2:Nat),I Y n,Q6 ra 3 rc,Rh a1.me.isSome,I Re ((rh a1).1:Nat),I Y ((rh a1).2:Nat),Q6 m5 (te a1).length gc] 53)=w4 at *
 obtain⟨Bb,fr⟩:∃Bb,Bb=G (Q w3):=⟨_,rfl⟩;rw[<-fr]at a8⊢;have hu:=gj fr;have hv:=gj (oI dc ht.o);obtain⟨d0,d1,d2,d3,d4,jj⟩:=lB hv.o;have lm:=c7.o.len
 have dk:=E3 Bb n l (Q6 ta (O a1.T) tc) (Q6 oa (O a1.out) oc) (Q6 ra 3 rc) (Q6 m5 (te a1).length gc) (.agg #[Rh b0,I Re m1,I Re m2,Q6 M n1 m7,Q6 q2 n2 m8]) a1 tk w w4 a8 (fd.o.ext (gR.gO (S:=fun _=>False) dc) fun _ _ _ e=>e) (fun j m4=>⟨by have:=(hs.o j m4).2;omega,(fi.o j m4).2.2.2.1,by have:=(hs.o j m4).2;omega⟩) c7.o.nP hf.o.out e4.o.sorted (by omega) (by omega) (by have:=e4.o.len;omega) (by omega)
  (fun x m6=>by have:=(e4.o.mH x m6).short;unfold im;omega) (fun x m6=>by have:=(c7.o.mH x m6).short;unfold im;omega) (by have:=yd 6 (tk.T a1.T) fun x m6=>(c7.o.mH x m6).short;omega)
 have dl:=gj dk;clear a8 dk fr fd io;go_wp2_with fail;refine dl.o.mono ?_;rintro e w5 ⟨dv,rfl,fx,fz,t',o',b5,hw,hx,hy,hz⟩;rw[<-ia.o]at fx;rw[<-h9.o]at b5;have R:gR (KE Bb (Q6 oa (O a1.out) oc)) w3 w5:=(gR.gO dc).trans hx;have hA:=hu.o;have fB:=H3.o.rg.share (B:=Bb) (by omega) R hw;have hB:gR (KE A (Q6 oa (O a1.out) oc)) w3 w5:=⟨R.os,R.tape,R.output,R.size,fun k hk no=>R.block k hk fun e=>e.elim (fun e=>by omega) fun e=>no (.inr e)⟩;obtain⟨hC,hD⟩:=H3.o.Nz fB hB (fun j e=>.inl e) (fun j e=>.inl e) rfl rfl;have hE:=zP.new H3.o hA fp fi.o b5 hy hz fx fz;have y:=gj hC;have bb:=gj hE;have hG:=gj (hr.o.trans hD);obtain⟨-,fR,f1,rfl,-,-⟩:=fx;clear fz b5 hw hx hy hz R fB hB hC hD hE hA dl dc fp hu hv d0 d1 d2 d3 d4 jj H3 ht fi hr ho;generalize Kn K2 w3 w5=K5 at *
 have b6:=gj (fun Wd KK (m6:pY Wd KK X H1 (N p))=>yk KK X H1 p Wd frame m6 h7.o (by omega));generalize mn H1 p frame=RR at *
 obtain⟨H',p'⟩:=RR;simp only at bE b6;have U:=gr 3 bb.o.rg.row;have D:=gm bb.o.rg.row;have b8:gy (oP bA=match bA.l4 with|none=>(0,0)|some f=>f):=gj rfl;obtain⟨m3,f2⟩:∃m3,m3=(oP bA).1:=⟨_,rfl⟩;rw[<-f2]at U;have ag:=gj f2;clear f2;rcases ak:bA.l4 with _|f
 case' none=>
  have j1:((m3:Int)==0)=true:=by
   have ds:m3=0:=by rw[ag.o,b8.o,ak]
   rw[ds];rfl
  have bc:((m3:Int)==12)=false:=by
   have ds:m3=0:=by rw[ag.o,b8.o,ak]
   rw[ds];rfl
  have j2:=gj (bE.o.ir ak);have j3:=gj (bE.o.up ak);obtain⟨c0,c1,-,c3,-,d⟩:=y.o.cells;have z3:=gD 3 y.o.row;have dT:=gr 1 bb.o.rg.row;obtain⟨-,f3,f4,b9,-,-⟩:=bb.o.rg.T;obtain⟨md,mk,hH⟩:=y.o.evo.shape;rw[b9]at dT;rw[hH]at c3;have hI:gy (iD w5 (Q6 f3 (O bA.T) f4) bA.T):=gj (by rw[<-b9];exact bb.o.rg.T);have mm:O bA.T<=1000000:=ic.o;clear ak b9;go_upto_region 11 with fail;go_region_law ((first|(refine yR rfl (.tmp 72) (.tmp 74) rfl b ev ever bA.T (by exact hH.symm) (by exact y.o.evo) (by exact y.o.evT) (by exact hI.o) (by omega) (by exact y.o.lt) ?_;intro kd w6 f5 bi hJ hL;obtain⟨bs,bt,rfl⟩:=f5.shape;have d5:=gj (lR bi (fun e=>(y.o.ne.2.2 W e).1 rfl) y.o.row);have kf:=gr 3 d5.o;have kk:=gD 3 d5.o;have kl:=gm d5.o)))
  all_goals
   have f6:gS w6 b 3 (Q6 bs (O ever+O bA.T) bt) (ever++bA.T).length (gV (ever++bA.T)):=by rw[<-ab];exact f5
   have f7:gQ w6 (Q6 bs (O ever+O bA.T) bt) 108:=by rw[<-ab];exact hJ
   have cb:∀j,(Q6 bs (O ever+O bA.T) bt).ownBlock=N j->Rl ev=N j\/j=G (Q w5):=by rw[<-ab];exact hL
   have f8:w5.grownBy w6 (Rl ev):=⟨bi.os,bi.tape,bi.output,bi.size,bi.block⟩;obtain⟨hM,bN,hN⟩:=y.o.everSet f8 f6 f7 cb rfl;have hO:=bb.o.ext (K':=Kn K5 w5 (Rp w6 ⟨W,3,J⟩ (Q6 bs (O ever+O bA.T) bt))) y.o bN (fun j _ e=>e) (fun _=>.inl) fun j e=>(cb j e).imp id fun e=>by omega
   generalize Rp w6 ⟨W,3,J⟩ (Q6 bs (O ever+O bA.T) bt)=ws at *
   have H6:=gj hM;have bk:=gj hO;have bO:=gj (hG.o.trans hN);clear hM bN hN hO f5 f6 hJ f7 hL cb bi f8 d5 kf kk kl c0 c1 c3 d z3 dT U D hI;generalize (Q6 bs (O ever+O bA.T) bt)=kd at *
   obtain⟨c0,-,-,-,-,d⟩:=H6.o.cells;go_wp2_with fail;refine(b6.o ws _ H6.o.x).mono ?_;rintro e w7 ⟨rfl,hP,d6⟩;have bP:=H6.o.kQ d6 hP;have d7:=bk.o.ext H6.o d6 (fun j h1 nk=>absurd h1 nk) (fun _ h=>h) fun _=>.inl;have d8:=gj (bO.o.trans (d6.below H6.o.lt H6.o.kb));clear hP d6 c0 d;obtain⟨c0,c1,c2,-,-,d⟩:=bP.cells;have z2:=gD 2 bP.row;have U:=gr 3 d7.rg.row;have D:=gm d7.rg.row;rw[<-ag.o]at U;obtain⟨s1,s2,s3⟩:=vk (E:=55) bP.row (Q6 (N ⟨G (Q w7),0,J⟩) 2 2) #[Q5 (N ⟨A,0,J⟩),Q5 (N ⟨Bb,0,J⟩)];obtain⟨hQ,hR,bR⟩:=d7.may bP s1 s2 s3 gH;have m:=gj hQ;have ga:=gj hR;have d9:=gj (d8.o.trans bR);clear s1 s2 s3 bP d7 hQ hR bR;go_upto_region 15 with fail;generalize (Rp w7 ⟨W,2,J⟩ (Q6 (N ⟨G (Q w7),0,J⟩) 2 2)).alloc (Q1 #[Q5 (N ⟨A,0,J⟩),Q5 (N ⟨Bb,0,J⟩)] 55)=w8 at *
   clear c0 c1 c2 z2 U D d;obtain⟨c0,-,-,-,-,d⟩:=m.o.cells;have F:=gj (pF _ X H' (N p') w8 m.o.x);rcases hdd:H'.dp.ir with _|_
   case true=>rw[hdd]at F;have HZ:=gj (j2.o hdd);clear hdd;go_wp2_with fail;refine F.o.mono ?_;rintro e w9 ⟨rfl,rfl⟩;go_wp2_with fail;refine(yV m.o HZ.o.st.inv.everD (by have:=HZ.o.st.nP.dp.qO.len;omega) (by have:=HZ.o.evl;omega)).mono ?_;rintro e i ⟨rfl,av⟩;have q:Az i b Z W X n l (s+2)/\Q8 b w i:=⟨⟨_,_,_,_,_,_,_,_,_,_,_,_,_,_,_,_,_,m.o.below av,HZ.o⟩,d9.o.trans (av.mono m.o.lt)⟩;have bl:=gj q;clear av q c0 d;go_wp2;go_ret;exact⟨rfl,bl.o⟩
   rw[hdd]at F;rcases j3.o hdd with ⟨M,q2,q3,q4⟩|⟨M,q2,q3,q4,q5⟩
   case inr=>
    subst q3;have ce:(a1.jZ (12,0)).l4=N (12,0)/\(a1.jZ (12,0)).V=a1.V/\(a1.jZ (12,0)).T=a1.T:=lN {a1 with l4:=N (12,0)} 18 [UInt8.ofNat 12];have HU:=gj (q5.up hdd);have u:=gj (sO _ X H' p' w8 m.o.x (by rw[M];exact fun f e=>⟨((q5.up hdd).2.2.2.1 f e).1,((q5.up hdd).2.2.2.1 f e).2.1,((q5.up hdd).2.2.2.1 f e).2.2.1⟩));obtain⟨sk,a0,-⟩:=yx (p:=p') (by rw[M];exact(q5.up hdd).2.2.2.1);rw[M,yw ce.1]at a0;rw[a0]at u;unfold sH at u;have kn:=gj M;have hS:=gj q4;have ko:=gj q5;have gb:=gj ce;clear M q2 q4 q5 a0 hdd ce;go_wp2_with fail;refine F.o.mono ?_;rintro e w9 ⟨rfl,rfl⟩;go_wp2_with fail;refine u.o.mono ?_;rintro e i ⟨rfl,av⟩;have bB:Q8 (G (Q w9)) w9 (i.alloc (Q1 #[I Y 12,I Y 0,I Y (sk:Int)] 34)):=av.al _;have ge:=gB i (Q1 #[I Y 12,I Y 0,I Y (sk:Int)] 34);clear c0 d av;go_upto_region 18 with fail;generalize i.alloc (Q1 #[I Y 12,I Y 0,I Y (sk:Int)] 34)=bS at *
    have ci:=m.o.below bB;have cl:=ga.o.ext m.o (gR.gO (S:=fun _=>False) bB) (fun _ _ e=>e.elim) (fun _ h=>h) fun _=>.inl;have a6:=gj ci;have cm:=gj (d9.o.trans (bB.mono m.o.lt));obtain⟨f0,gf⟩:Rn bS ⟨G (Q i),0,J⟩=N (I Y 12)/\G (Q i)<G (Q bS):=⟨gr 0 ge,gm ge⟩;obtain⟨-,c1,-,-,c4,d⟩:=ci.cells;have U:=gr 3 cl.rg.row;have D:=gm cl.rg.row;rw[<-ag.o]at U;clear bB ge ci cl;go_wp2_with fail;refine(uh A n l _ _ _ _ a1 12 0 bS a6.o.rg hf.o.out (by omega)).mono ?_;intro e hT ns;obtain⟨rfl,c9⟩:=ns.go;obtain⟨ox,gx,gg,gl⟩:=a6.o.ref c9 gb.o.2.1 gb.o.2.2;have bv:=gj gg;have cn:=gj (cm.o.trans gl);clear ns c9 gg gl f0 gf c1 c4 d U D;go_wp2_with fail;refine(qz bv.o kn.o HU.o.2.2.2.1).mono ?_;rintro e hU ⟨rfl,aa⟩;have am:=gj (bv.o.below aa);have co:=gj (cn.o.trans (aa.mono bv.o.lt));clear aa;obtain⟨c0,-,-,-,-,d⟩:=am.o.cells;go_wp2_with fail;refine(vA _ X H' (N p') hU am.o.x).mono ?_;rintro e bX ⟨lv,rfl,bw,cp,cq⟩;rw[hS.o]at bw;obtain⟨-,nF,lc,rfl,-,-⟩:=bw;rw[wK hS.o]at cp;have q:Az bX b Z W X n l (s+2)/\Q8 b w bX:=⟨⟨_,_,_,_,_,_,_,_,_,_,_,_,_,_,_,_,_,am.o.kQ cq cp,ko.o⟩,co.o.trans (cq.below am.o.lt am.o.kb)⟩;have bl:=gj q;clear cp cq q c0 d;go_wp2;go_ret;exact⟨rfl,bl.o⟩
   have gn:gy (O7 w w8 b Z W X A (Q6 ta (O a1.T) tc) (Q6 oa (O a1.out) oc) (Q6 ra 3 rc) (Q6 m5 (te a1).length gc) n l H' p' a1 armed s Bb t' o' bA (Q6 fR (O dn) f1) dn):=gj ⟨_,_,_,_,_,_,_,_,m.o,ga.o,d9.o,M,q4.up hdd,q3,q4⟩;clear M q2 q3 q4 hdd;go_wp2_with fail;refine F.o.mono ?_;rintro e w7 ⟨rfl,rfl⟩;clear c0 d F m ga d9 d8 H6 bk bO
 case' some=>
  obtain⟨z1,z2,z3,z4⟩:=bE.o.full f ak;have j1:((m3:Int)==0)=false:=by
   have ds:m3=f.1:=by rw[ag.o,b8.o,ak]
   have:=(z4.up (by rw[z1];exact hb.o)).2.2.2.1 f ak;simp;omega
  have eb:=gj z4;have hV:=gj z2;have hW:=gj z1;have hX:=gj z3;obtain⟨c0,-,-,-,-,d⟩:=y.o.cells;clear z1 z2 z3 z4 ak;go_wp2_with fail;refine(b6.o w5 K5 y.o.x).mono ?_;rintro e w6 ⟨rfl,bN,ec⟩;have H6:=gj (y.o.kQ ec bN);have bk:=gj (bb.o.ext y.o ec (fun j h1 nk=>absurd h1 nk) (fun _ h=>h) fun _=>.inl);have bO:=gj (hG.o.trans (ec.below y.o.lt y.o.kb));clear bN ec c0 d U D;obtain⟨c0,-,-,-,-,d⟩:=H6.o.cells;have U:=gr 3 bk.o.rg.row;have D:=gm bk.o.rg.row;rw[<-ag.o]at U;have hdd:H'.dp.ir=false:=by rw[hW.o];exact hb.o
  have F:=gj (pF K5 X H' (N p') w6 H6.o.x);rw[hdd]at F;go_wp2_with fail;refine F.o.mono ?_;rintro e w7 ⟨rfl,rfl⟩;have cr:=eb.o.iF rfl hdd;have gn:gy (O7 w w7 b Z W X A (Q6 ta (O a1.T) tc) (Q6 oa (O a1.out) oc) (Q6 ra 3 rc) (Q6 m5 (te a1).length gc) n l H' p' a1 armed s Bb t' o' bA (Q6 fR (O dn) f1) dn):=gj ⟨K5,C,ev,mb,Ms,maybe,ever,_,H6.o,bk.o,bO.o,hV.o,eb.o.up hdd,by rw[cr,hX.o],by rw[wK cr];exact eb.o⟩;clear c0 d U D cr F hdd hW hV hX eb bk H6 bO
 all_goals
  obtain⟨K7,C7,mp,ms,mv,kq,k5,Bx,g1,g2,g3,g4,g5,g6,g7⟩:=gn.o;have H7:=gj g1;have kr:=gj g2;have d8:=gj g3;have ks:=gj g4;have h2:=gj g5;have kt:=gj g6;have kw:=gj g7;have u:=gj (sO K7 X H' p' w7 g1.x (by rw[g4];exact fun f e=>⟨(g5.2.2.2.1 f e).1,(g5.2.2.2.1 f e).2.1,(g5.2.2.2.1 f e).2.2.1⟩));obtain⟨sk,a0,-⟩:=yx (p:=p') (by rw[g4];exact g5.2.2.2.1);rw[g4,<-ag.o]at a0;obtain⟨nn,gq⟩:∃nn,nn=(oP bA).2:=⟨_,rfl⟩;rw[<-gq]at a0;rw[a0]at u;unfold sH at u;have mA:=gj gq;clear a0 gq g1 g2 g3 g4 g5 g6 g7;obtain⟨c0,-,-,-,-,d⟩:=H7.o.cells;go_wp2_with fail;refine u.o.mono ?_;rintro e w8 ⟨rfl,bR⟩;have ed:Q8 (G (Q w7)) w7 (Ro w8 (Q1 #[I Y (m3:Int),I Y (nn:Int),I Y (sk:Int)] 34)):=bR.al _;have F9:=gB w8 (Q1 #[I Y (m3:Int),I Y (nn:Int),I Y (sk:Int)] 34);clear c0 d bR;go_upto_region 18 with fail;generalize Ro w8 (Q1 #[I Y (m3:Int),I Y (nn:Int),I Y (sk:Int)] 34)=w9 at *
  have H9:=gj (H7.o.below ed);have b1:=gj (kr.o.ext H7.o (gR.gO (S:=fun _=>False) ed) (fun _ _ e=>e.elim) (fun _ h=>h) fun _=>.inl);have kB:=gj (d8.o.trans (ed.mono H7.o.lt));obtain⟨f0,gf⟩:Rn w9 ⟨G (Q w8),0,J⟩=N (I Y (m3:Int))/\G (Q w8)<G (Q w9):=⟨gr 0 F9,gm F9⟩;obtain⟨-,c1,-,-,c4,d⟩:=H9.o.cells;have z2:=gD 2 H9.o.row;obtain⟨kC,dT,kD,U,kE,kF,kN,kO,kT,kU,h4,D⟩:=NB b1.o.rg.row;rw[<-ag.o]at U;obtain⟨-,f3,f4,rfl,-,-⟩:=b1.o.rg.T;obtain⟨kV,k0,rfl⟩:=b1.o.rg.out.own.shape;have fo:=gm H9.o.rg.row;obtain⟨i0,i1,i2,i3,i4,i5,i6,i7,i8,i9,i10,-⟩:=NB H9.o.rg.row;obtain⟨y0,y1,y2,y3,y4,y5,y6,y7,y8,y9,k1⟩:=PE H9.o.rg.row;have mC:A≠Bb:=fun e=>b1.o.cB.2.1 e.symm;obtain⟨i,bD⟩:∃i,i=(Hc w9 A (I Re (bA.V:Nat)) (Q6 f3 (O bA.T) f4) (Q6 kV (O bA.out) k0) (I Y (m3:Nat)) (I Y ((oP bA).2:Nat)) (I Y n) (Q6 ra 3 rc) (Rh bA.me.isSome) (I Re ((rh bA).1:Nat)) (I Y ((rh bA).2:Nat)) (Q6 m5 (te a1).length gc)).drew:=⟨_,rfl⟩;obtain⟨gs,cs⟩:=Jz H9.o.rg.row bD;rw[ag.o]at cs;have ct:=gj gs;have h5:=gj cs;unfold Hc at bD;have gt:=gj bD;clear ed F9 u gs cs bD;cases armed
  all_goals
   go_upto_region 21 with fail;go_region;rw[<-gt.o];have aE:=ct.o.at (fun e=>H9.o.ne.1 e) H9.o.row;clear c1 c4 d z2 kC dT kD U kE kF kN kO kT kU h4 D fo i0 i1 i2 i3 i4 i5 i6 i7 i8 i9 i10 y0 y1 y2 y3 y4 y5 y6 y7 y8 y9 k1 f0 gf gt;have c1:=gr 1 aE;have c2:=gr 2 aE;have z2:=gD 2 aE;have d:=gm aE;obtain⟨s1,s2,s3⟩:=vk (E:=55) aE (Q6 (N ⟨G (Q i),0,J⟩) 1 1) #[Q5 (N ⟨A,0,J⟩)];obtain⟨g1,g2,g3,g4⟩:=b1.o.QA H9.o ((ct.o.mono fun j e=>.inl e).trans (s1.mono fun j e=>.inr e)) (s1.at (fun e=>H9.o.ne.1 e.symm) h5.o) s2 s3 ct.o.size;go_upto_region 23 with fail;generalize (i.setCell ⟨W,2,J⟩ (Q6 (N ⟨G (Q i),0,J⟩) 1 1)).alloc (Q1 #[Q5 (N ⟨A,0,J⟩)] 55)=bS at *
   have a6:=gj g1;have k2:=gj g2;have k3:=gj g3;have cm:=gj (kB.o.trans g4);clear g1 g2 g3 g4 s1 s2 s3 c1 c2 z2 d aE;obtain⟨c0,-,-,-,-,d⟩:=a6.o.cells;go_wp2_with fail;refine(vA _ X H' (N p') bS a6.o.x).mono ?_;rintro e hT ⟨lv,rfl,bw,gu,bc⟩;rw[kt.o]at bw;have bv:=gj (a6.o.kQ bc gu);have cn:=gj (cm.o.trans (bc.below a6.o.lt a6.o.kb));have k4:=gj (BV lv (Q6 fR (O dn) f1) dn hT bw (gE.frame k2.o fun j e m4=>bc.block j m4 fun no=>no (k3.o j e)) (by have:=ib.o;omega));obtain⟨-,nF,lc,rfl,-,-⟩:=bw;clear gu bc c0 d;go_wp2_with fail;refine k4.o.mono ?_;rintro e hU ⟨rfl,aa⟩;have am:=gj (bv.o.below aa);have co:=gj (cn.o.trans (aa.mono bv.o.lt));clear aa;go_wp2_with fail;refine(qz am.o ks.o h2.o.2.2.2.1).mono ?_;rintro e bX ⟨rfl,cu⟩;have q:Az bX b Z W X n l (s+2)/\Q8 b w bX:=⟨⟨_,_,_,_,_,_,_,_,_,_,_,_,_,_,_,_,_,am.o.below cu,kw.o⟩,co.o.trans (cu.mono am.o.lt)⟩;have bl:=gj q;clear cu q;go_wp2;go_ret;exact⟨rfl,bl.o⟩
end
theorem jW.begun{w:Q0}{A n:Nat}{l:Vf}{t o r g:Q4}{a:iy}(h:jW w A n l t o r g a)(v k:Nat)(s:w'=(((Rp w ⟨A,7,J⟩ (Rh true)).setCell ⟨A,8,J⟩ (I Re (v:Nat))).setCell ⟨A,9,J⟩ (I Y (k:Nat))).setCell ⟨A,10,J⟩ (Q6 J 0 0)):
  jW w' A n l t o r (Q6 J 0 0) {a with me:=N (v,k,[])}/\gR (fun j=>j=A) w w':=by
 subst s;have d:gR (fun j=>j=A) w ((((Rp w ⟨A,7,J⟩ (Rh true)).setCell ⟨A,8,J⟩ (I Re (v:Nat))).setCell ⟨A,9,J⟩ (I Y (k:Nat))).setCell ⟨A,10,J⟩ (Q6 J 0 0)):=((((gR.refl (fun j=>j=A) w).setCell ⟨A,7,J⟩ _ (.inl rfl)).setCell ⟨A,8,J⟩ _ (.inl rfl)).setCell ⟨A,9,J⟩ _ (.inl rfl)).setCell ⟨A,10,J⟩ _ (.inl rfl);have u:=QN _ _ 10 (Q6 J 0 0) (QN _ _ 9 (I Y (k:Nat)) (QN _ _ 8 (I Re (v:Nat)) (QN _ _ 7 (Rh true) h.row)));obtain⟨s1,s2,x,q⟩:=h.sepA;refine⟨⟨u,gE.frame h.T fun b e i=>d.block b i fun m=>s1 (by rw[e,m]),⟨h.out.own.frame d.size fun b e i=>d.block b i fun m=>q (by rw[e,m]),h.out.typ.frame fun b e i=>d.block b i fun m=>q (by rw[e,m])⟩,gE.frame h.room fun b e i=>d.block b i fun m=>s2 (by rw[e,m]),gE.nil _ _ _ _,fun j e=>⟨(h.sep j e).1,(h.sep j e).2.1,by simp[Value.ownBlock]⟩,⟨s1,s2,by simp[Value.ownBlock],q⟩,fun j e=>?_⟩,d⟩;refine ae (h.lt j (e.imp id (Or.imp id fun e=>?_))) d.size;simp[Value.ownBlock]at e
theorem CP(A n:Nat)(l:Vf)(t o r g:Q4)(a:iy)(body:gw)(w:Q0)(h:jW w A n l t o r g a)(U:a.mN)(hb:O body<=im):
  Rg prog 75 #[Q5 (N ⟨A,0,J⟩),Q7 ⟨Rm body⟩] w fun e w'=>e=.returned (Rc #[])/\mr w A n l t o r g (a.mW body) w':=by
 unfold im at hb;have d:=gj h;have HF:=gj U;have u:=gj (fun k p W (hW:jW W A n l t o r g a) (hk:k<256)=>nu A n l t o r g a k p W hW U hk);have X:=U.out;clear h U;go_enter func75,ntmps75;by_cases h9:O body=9
 .have a0:((O body:Int)==9)=true:=by rw[h9];rfl
  have br:(O body:Int)=9:=by omega
  have D:gy (a.mW body=if ij (j6 (body.take 8))=false then a.pW 4 else if(body.getD 8 0).toNat<1\/16<(body.getD 8 0).toNat then a.pW 5 else if j6 (body.take 8)<=a.V then a.oO else {a with me:=N (j6 (body.take 8),(body.getD 8 0).toNat,[])}.lX):=gj (by unfold iy.mW;rw[af (by omega),af (by omega)]);go_wp2_with fail;go_loop [5,6] (fun v i=>∃k:Nat,k<=8/\i=I Y (k:Int)/\v=I Re ((j6 (body.take k):Nat):Int)) (fun _ i=>8-(intOf i).toNat)
  case atStart=>exact⟨0,by omega,rfl,rfl⟩
  case round=>
   obtain⟨k,hk,rfl,rfl⟩:=hrel;by_cases a1:k<8
   .have ba:(k:Int)<8:=by omega
    have Z:=pR k body (by omega);have F:j6 (body.take k)<256^7:=ae Z (dU (by decide) (by omega));have H:=gj (rB body k (by omega));obtain⟨x,y⟩:∃x,body[k]'(by omega)=x:=⟨_,rfl⟩;have i0:∀w,(Instr.index 9 (Q7 ⟨Rm body⟩) (I Y (k:Int))).run prog w=.ok (I .u8 x.toNat) w:=fun w=>gW underlying9 _ _ _ x (by omega) (by rw[cj,ah (by omega),y]) w;rw[y]at H;have a2:=x.toNat_lt;clear y Z;obtain⟨v,E⟩:∃v,v=j6 (body.take k):=⟨_,rfl⟩;rw[<-E]at F H⊢;clear E;have E:v<72057594037927936:=F;have bs:IntKind.u64.wrap (256*(v:Int))=((256*v:Nat):Int):=by rw[IntWalk.u64_in _ (by omega)];omega
    clear F;go_wp2_with fail;refine⟨⟨k+1,by omega,rfl,?_⟩,?_⟩
    .rw[H.o];congr 1;omega
    .simp[intOf];omega
   .obtain rfl:k=8:=by omega
    clear hk a1;have B:=pR 8 body (by omega);obtain⟨v,E⟩:∃v,v=j6 (body.take 8):=⟨_,rfl⟩;rw[<-E]at D B⊢;have am:v<18446744073709551616:=B;clear E B;obtain⟨x,y⟩:∃x,body.getD 8 0=x:=⟨_,rfl⟩;have i0:∀w,(Instr.index 9 (Q7 ⟨Rm body⟩) (I Y 8)).run prog w=.ok (I .u8 x.toNat) w:=fun w=>gW underlying9 _ _ _ x (by omega) (by show body[8]?=N x;rw[<-y,aD,ah (by omega)];rfl) w;have a2:=x.toNat_lt;rw[y]at D;clear y;have HV:=gj (fun W=>jU v W am);go_wp2_with fail;refine(HV.o _).mono ?_;rintro e w4 ⟨rfl,rfl⟩;have a3:=gm d.o.row;have c0:=gr 0 d.o.row;cases s:ij v with
    | false=>have q:gy (a.mW body=a.pW 4):=gj (by rw[D.o,aw s]);clear s D;go_wp2_with fail;refine(u.o 4 0 _ d.o (by omega)).mono ?_;rintro e w5 ⟨rfl,b⟩;go_wp2;go_end0;exact⟨rfl,by rw[q.o];exact b⟩
    | true=>
     have m:=D.o;rw[af (by rw[s];decide)]at m;clear s D;by_cases M:x.toNat<1\/16<x.toNat
     .have q:gy (a.mW body=a.pW 5):=gj (by rw[m,aw M]);clear m;by_cases aa:x.toNat<1
      .have R:(x.toNat:Int)<1:=by omega
       clear M aa;go_wp2_with fail;refine(u.o 5 0 _ d.o (by omega)).mono ?_;rintro e w5 ⟨rfl,b⟩;go_wp2;go_end0;exact⟨rfl,by rw[q.o];exact b⟩
      .have R:¬(x.toNat:Int)<1:=by omega
       have ap:(16:Int)<(x.toNat:Int):=by omega
       clear M aa;go_wp2_with fail;refine(u.o 5 0 _ d.o (by omega)).mono ?_;rintro e w5 ⟨rfl,b⟩;go_wp2;go_end0;exact⟨rfl,by rw[q.o];exact b⟩
     .rw[af M]at m;have R:¬(x.toNat:Int)<1:=by omega
      have ap:¬(16:Int)<(x.toNat:Int):=by omega
      have hV:=HF.o.v;clear M;by_cases C:v<=a.V
      .have q:gy (a.mW body=a.oO):=gj (by rw[m,aw C]);have av:(v:Int)<=(a.V:Int):=by omega
       clear m C;go_wp2_with fail;refine(mS a.V _ (by omega)).mono ?_;rintro e w5 ⟨rfl,ag⟩;go_wp2_with fail;refine(pr A n l t o r g a 17 17 (nC a.V) w5 (d.o.below ag) (by decide) (by rw[iB];decide) X).mono ?_;intro e w6 S;obtain⟨rfl,b⟩:=S.go;go_wp2;go_end0;exact⟨rfl,by rw[q.o];exact mr.first ag b⟩
      .have q:gy (a.mW body={a with me:=N (v,x.toNat,[])}.lX):=gj (by rw[m,af C]);have av:¬(v:Int)<=(a.V:Int):=by omega
       clear m C;have ak:=gj (d.o.begun v x.toNat rfl);have z7:=gD 7 d.o.row;have z8:=gD 8 d.o.row;have z9:=gD 9 d.o.row;have a4:=gD 10 d.o.row;have c7:=gr 7 d.o.row;have c8:=gr 8 d.o.row;have c9:=gr 9 d.o.row;have a5:=gr 10 d.o.row;go_upto_region 16 with fail;generalize (((Rp w ⟨A,7,J⟩ (Rh true)).setCell ⟨A,8,J⟩ (I Re (v:Nat))).setCell ⟨A,9,J⟩ (I Y (x.toNat:Nat))).setCell ⟨A,10,J⟩ (Q6 J 0 0)=w5 at *
       clear z7 z8 z9 a4 c7 c8 c9 a5 c0 a3;go_wp2_with fail;refine(rq A n l t o r (Q6 J 0 0) {a with me:=N (v,x.toNat,[])} w5 ak.o.1 X (by show(0:Nat)<256;decide)).mono ?_;intro e w6 S;obtain⟨rfl,b⟩:=S.go;go_wp2;go_end0;exact⟨rfl,by rw[q.o];exact mr.trans (ak.o.2.mono fun j hj=>.inl hj) (fun j e=>.inl e) (fun j e=>by simp[Value.ownBlock]at e) b⟩
 .have a0:((O body:Int)==9)=false:=ar.2 (by omega);by_cases hg:9<O body
  .have q:gy (a.mW body=a.pW 2):=gj (by unfold iy.mW;rw[af (by omega),aw hg]);have a6:(9:Int)<(O body:Int):=by omega
   clear h9 hg;go_wp2_with fail;refine(u.o 2 0 _ d.o (by omega)).mono ?_;rintro e w5 ⟨rfl,b⟩;go_wp2;refine ai (v:=Rc #[]) (by simp[results,results75,go_sem]) rfl ?_;exact⟨rfl,by rw[q.o];exact b⟩
  .have q:gy (a.mW body=a.pW 1):=gj (by unfold iy.mW;rw[aw (by omega)]);have a6:¬(9:Int)<(O body:Int):=by omega
   clear h9 hg;go_wp2_with fail;refine(u.o 1 0 _ d.o (by omega)).mono ?_;rintro e w5 ⟨rfl,b⟩;go_wp2;refine ai (v:=Rc #[]) (by simp[results,results75,go_sem]) rfl ?_;exact⟨rfl,by rw[q.o];exact b⟩
end Go.Proofs.YtkkfmkhbdoeglabGreatDoor
