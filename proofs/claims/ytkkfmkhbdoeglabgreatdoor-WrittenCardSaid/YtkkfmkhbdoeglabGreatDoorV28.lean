/- Lemmas of the proof. No condition. -/
import Derived.Test.YtkkfmkhbdoeglabGreatDoorV27
set_option maxHeartbeats 4000000
set_option maxRecDepth 100000
namespace Go.Proofs.YtkkfmkhbdoeglabGreatDoor
open Go renaming World->Q0,Value->Q4
open Go.IntKind renaming i64->Y,u64->Re
open Go.Value renaming int->I,pointer->Q5,slice->Q6,string->Q7,tuple->Rc,bool->Rh,ownBlock->Rl
open Go.World renaming heap->Q,setCell->Rp
open List renaming length->O,toArray->Rm
open Option renaming none->J,some->N
open _root_.Array renaming size->G
open Go.Proofs.Tryz
open Go.RowKit Go.Shelf
variable{Bb:Nat}{D:Nat->Prop}{bA:iy}{dn:List gw}{dv o' t' v:Q4}{tk:iV}{w' w1:Q0}
def Az(w:Q0)(b:Nat)(Z:Nat->Obj->Prop)(W X n:Nat)(l:List Int)(s:Nat):Prop:=∃A K C t o r g ev mb Ms H p a maybe ever armed B,nH w b Z W X A K C t o r g ev mb Ms n l H (N p) a maybe ever armed/\uG n l s B H (N p) a maybe ever armed
theorem uG.mono{n:Nat}{l:List Int}{s t B:Nat}{H:gA}{P:Option iM}{a:iy}{maybe:List (Nat×List E)}{ever:List E}{armed:Bool}(h:uG n l s B H P a maybe ever armed)(b:s<=t):uG n l t B H P a maybe ever armed:=
 ⟨h.st.mono b gH fun _ h=>h,h.iF,by have:=h.evl;omega,by have:=h.B;omega⟩
theorem jW.copy{w:Q0}{A n:Nat}{l:List Int}{t o r g:Q4}{a:iy}{R:Array Q4}(h:jW w A n l t o r g a)(d:R=#[I Re (a.V:Nat),t,o,I Y ((oP a).1:Nat),I Y ((oP a).2:Nat),I Y n,r,Rh a.me.isSome,I Re ((rh a).1:Nat),I Y ((rh a).2:Nat),g])(i:w'=World.alloc w (.cells R 53)):jW w' (G (Q w)) n l t o r g a:=by subst d i;have j:Below (G (Q w)) w (World.alloc w (.cells #[I Re (a.V:Nat),t,o,I Y ((oP a).1:Nat),I Y ((oP a).2:Nat),I Y n,r,Rh a.me.isSome,I Re ((rh a).1:Nat),I Y ((rh a).2:Nat),g] 53)):=(Below.rf w).al _;have b:=h.below j;exact⟨gB _ _,b.T,b.out,b.room,b.got,b.sep,⟨fun e=>by have:=h.lt _ (.inl e);omega,fun e=>by have:=h.lt _ (.inr (.inl e));omega,fun e=>by have:=h.lt _ (.inr (.inr e));omega,fun e=>by have:=gS.iA h.out.own _ e;omega⟩,b.lt⟩
theorem oI{w:Q0}{R:Nat}{o:Obj}(b:Below (G (Q w)) w w')(h:w.heap[R]?=N o):w'.heap[R]?=N o:=gC b (gm h) h
theorem J2.ext{l:Q0}{x:Option iV}(h:J2 l w1 v x)(i:gR D w1 w')(q:∀j,G (Q l)<=j->j<G (Q w1)->¬D j):J2 l w' v x:=by
 match x,h with
 | none,h=>exact h
 | some (.delta m os),⟨s,h,o⟩=>exact⟨s,h,o.frame i.size fun b e d=>i.block b d (q b (o.ie b e) (o.iA b e))⟩
 | some (.nG m T),⟨tv,h,u,d⟩=>exact⟨tv,h,gE.frame u fun b e r=>i.block b r (q b (d b e).1 (d b e).2),fun j e=>⟨(d j e).1,ae (d j e).2 i.size⟩⟩
theorem J2.owns{d:Q0}(h:J2 d w1 v (N tk)):∀j,Dh v j->G (Q d)<=j/\j<G (Q w1):=by
 rintro j ⟨b,m1,m2,s,tv,rfl,i⟩
 match tk,h with
 | .delta m os,⟨q,h,l⟩=>simp only[fN,fX,ep,Value.bool.injEq,Value.int.injEq,true_and]at h;obtain⟨-,-,-,-,rfl,-⟩:=h;simp[Value.ownBlock]at i
 | .nG m T,⟨r,h,l,o⟩=>simp only[fN,fX,ep,Value.bool.injEq,Value.int.injEq,true_and]at h;obtain⟨-,-,-,-,rfl,-⟩:=h;exact o j i
theorem Ej.nP{a1:iy}(h:Ej a1 tk):tk.nm:=by
 have b:=h.v;cases tk with
 | delta m os=>exact⟨by have:m<18446744073709551615:=b;omega,h.iS m os rfl⟩
 | nG m T=>show m<_;have:m<18446744073709551615:=b;omega
structure zP(w:Q0)(K C:Nat->Prop)(A W b n:Nat)(l:List Int)(o r g ev:Q4)(Bb:Nat)(t' o':Q4)(bA:iy)(dv:Q4)(dn:List gw):Prop where
 rg:jW w Bb n l t' o' r g bA
 cB:K Bb/\Bb≠A/\Bb≠W/\Rl o≠N Bb/\Rl ev≠N Bb
 ct:∀j,Rl t'=N j->K j/\j≠A/\j≠W/\Rl o≠N j/\Rl ev≠N j
 co:∀j,Rl o'=N j->K j/\b<=j/\¬C j
 dvs:gE w dv 1 (O dn) (jr dn)
 cd:∀j,Rl dv=N j->K j/\j≠A/\j≠W/\Rl ev≠N j
theorem zP.ext{w:Q0}{Z:Nat->Obj->Prop}{b W X A:Nat}{K K' C:Nat->Prop}{t o r g ev ev':Q4}{mb:Nat}{Ms:List Nat}{n:Nat}{l:List Int}{H:gA}{P:Option iM}{a:iy}{maybe:List (Nat×List E)}{ever:List E}{armed:Bool}(h:zP w K C A W b n l o r g ev Bb t' o' bA dv dn)(d:nH w b Z W X A K C t o r g ev mb Ms n l H P a maybe ever armed)(F:gR D w w')(hD:∀j,K j->D j->j=W\/Rl ev=N j)(hK:∀j,K j->K' j)(he:∀j,Rl ev'=N j->Rl ev=N j\/G (Q w)<=j):zP w' K' C A W b n l o r g ev' Bb t' o' bA dv dn:=by
 have M:=d.x.lt;have m:∀j,K j->Rl ev≠N j->Rl ev'≠N j:=fun j hk i e=>(he j e).elim i fun e=>by have:=M j hk;omega
 have u:∀j,Rl o'=N j->j≠W/\Rl ev≠N j:=fun j e=>⟨fun y=>h.rg.out.typ.ne d.row (by decide) (by rw[e,y]),fun y=>by obtain⟨Cs,f,hC⟩:=d.evT j y;exact h.rg.out.typ.ne hC (by decide) e⟩;have i:∀j,K j->j≠W->Rl ev≠N j->¬D j:=fun j h1 q s hd=>(hD j h1 hd).elim q s;have R:jW w' Bb n l t' o' r g bA:=h.rg.ext F (i _ h.cB.1 h.cB.2.2.1 h.cB.2.2.2.2) fun j e=>by
  rcases e with e|e|e|e
  .exact i j (h.ct j e).1 (h.ct j e).2.2.1 (h.ct j e).2.2.2.2
  .exact i j (h.co j e).1 (u j e).1 (u j e).2
  .have:=d.c j (d.cr j e);exact i j this.1 this.2.2.1 this.2.2.2.2
  .exact i j (d.cg j e).1 (d.cg j e).2.1 (d.cg j e).2.2
 have S:gE w' dv 1 (O dn) (jr dn):=gE.frame h.dvs fun j e hj=>F.block j hj (i j (h.cd j e).1 (h.cd j e).2.2.1 (h.cd j e).2.2.2);have U:∀j,Rl t'=N j->K' j/\j≠A/\j≠W/\Rl o≠N j/\Rl ev'≠N j:=fun j e=>by obtain⟨h1,q,s,B,h5⟩:=h.ct j e;exact⟨hK j h1,q,s,B,m j h1 h5⟩
 have V:∀j,Rl dv=N j->K' j/\j≠A/\j≠W/\Rl ev'≠N j:=fun j e=>by obtain⟨h1,q,s,B⟩:=h.cd j e;exact⟨hK j h1,q,s,m j h1 B⟩
 obtain⟨b1,b2,b3,b4,b5⟩:=h.cB;exact⟨R,⟨hK Bb b1,b2,b3,b4,m Bb b1 b5⟩,U,fun j e=>⟨hK j (h.co j e).1,(h.co j e).2⟩,S,V⟩
theorem zP.QA{w:Q0}{Z:Nat->Obj->Prop}{b W X A:Nat}{K C:Nat->Prop}{t o r g ev:Q4}{mb u:Nat}{Ms:List Nat}{n:Nat}{l:List Int}{H:gA}{P:Option iM}{a:iy}{maybe:List (Nat×List E)}{ever:List E}{armed:Bool}(h:zP w K C A W b n l o r g ev Bb t' o' bA dv dn)(d:nH w b Z W X A K C t o r g ev mb Ms n l H P a maybe ever armed)(B:gR (fun j=>j=A\/j=W) w w')(ak:w'.heap[A]?=N (.cells #[I Re (bA.V:Nat),t',o',I Y ((oP bA).1:Nat),I Y ((oP bA).2:Nat),I Y n,r,Rh bA.me.isSome,I Re ((rh bA).1:Nat),I Y ((rh bA).2:Nat),g] 53 (0,0)))(ag:w'.heap[W]?=N (.cells #[Q5 (N ⟨X,0,J⟩),Q5 (N ⟨A,0,J⟩),Q6 (N ⟨u,0,J⟩) 1 1,ev,Rh armed] 58 (0,0)))(hr:w'.heap[u]?=N (.cells #[Q5 (N ⟨A,0,J⟩)] 55 (0,0)))(am:G (Q w)<=u):
  nH w' b Z W X A (Kn K w w') (fun j=>(C j\/Rl t'=N j)\/j=u) t' o' r g ev u [A] n l H P bA [(bA.V,bA.T)] ever armed/\gE w' dv 1 (O dn) (jr dn)/\(∀j,Rl dv=N j->Kn K w w' j)/\Below b w w':=by
 obtain⟨n1,n4,R⟩:=d.ne;have D:=d.x.lt;have y:∀j,Rl o'=N j->j≠W/\j≠A/\Rl ev≠N j:=fun j e=>⟨fun s=>h.rg.out.typ.ne d.row (by decide) (by rw[e,s]),fun s=>h.rg.out.typ.ne d.rg.row (by decide) (by rw[e,s]),fun s=>by obtain⟨Cs,f,hC⟩:=d.evT j s;exact h.rg.out.typ.ne hC (by decide) e⟩;have hblk:∀j,j<G (Q w)->j≠A->j≠W->w'.heap[j]?=w.heap[j]?:=fun j h1 h2 h3=>B.block j h1 fun e=>e.elim h2 h3;have U:∀j,Rl g=N j->j≠A:=fun j e s=>d.rg.sepA.2.2.1 (by rw[e,s]);have aa:jW w' A n l t' o' r g bA:=by refine⟨ak,gE.frame h.rg.T fun j e q=>hblk j q (h.ct j e).2.1 (h.ct j e).2.2.1,⟨h.rg.out.own.frame B.size fun j e q=>hblk j q (y j e).2.1 (y j e).1,h.rg.out.typ.frame fun j e q=>hblk j q (y j e).2.1 (y j e).1⟩,gE.frame h.rg.room fun j e q=>hblk j q (d.c j (d.cr j e)).2.1 (d.c j (d.cr j e)).2.2.1,gE.frame h.rg.got fun j e q=>hblk j q (U j e) (d.cg j e).2.1,h.rg.sep,⟨fun e=>(h.ct A e).2.1 rfl,fun e=>(d.c A (d.cr A e)).2.1 rfl,fun e=>U A e rfl,fun e=>(y A e).2.1 rfl⟩,fun j e=>ae (h.rg.lt j e) B.size⟩
 have hX:=d.x.grow B fun k e=>e.elim (fun e=>by rw[e];exact⟨d.kA.1,au d.b2 d.kA.2⟩) fun e=>by rw[e];exact⟨d.kW.1,au d.b2 d.kW.2⟩
 have av:=gm hr;refine⟨⟨ag,hr,rfl,by simp,fun i M m F s=>?_,aa,hX,d.evo.frame B.size fun j e q=>hblk j q (R j e).2 (R j e).1,d.evT.frame fun j e q=>hblk j q (R j e).2 (R j e).1,⟨.inl d.kW.1,d.kW.2⟩,⟨.inl d.kA.1,d.kA.2⟩,fun j e=>.inl (.inr e),fun j e=>.inl (.inl (d.cr j e)),.inr rfl,fun j e=>⟨.inl (d.cg j e).1,(d.cg j e).2⟩,fun j e=>⟨.inl (h.co j e).1,(h.co j e).2.1⟩,fun j e=>.inl (d.kev j e),fun j q=>?_,fun k hk=>.inl (d.kb k hk),d.b2,fun j x S=>⟨.inl (.inl (d.z j x S).1),B.at (fun e=>e.elim (d.c j (d.z j x S).1).2.1 (d.c j (d.z j x S).1).2.2.1) (d.z j x S).2⟩⟩,gE.frame h.dvs fun j e q=>hblk j q (h.cd j e).2.1 (h.cd j e).2.2.1,fun j e=>.inl (h.cd j e).1,B.below d.lt fun k hk e=>?_⟩
 .match i,F,s with
  | 0,F,s=>simp only[aY,dz]at F s;subst F s;exact⟨wH.self aa fun j e=>.inl (.inr e),fun _=>rfl⟩
  | i+1,F,s=>simp at F
 .rcases q with (q|q)|rfl
  .obtain⟨c1,c2,c3,c4,c5⟩:=d.c j q;exact⟨.inl c1,c2,c3,fun e=>(h.co j e).2.2 q,c5⟩
  .obtain⟨c1,c2,c3,c4,c5⟩:=h.ct j q;exact⟨.inl c1,c2,c3,fun e=>(h.rg.sep j e).1 q,c5⟩
  .refine⟨.inr ⟨am,av⟩,fun e=>?_,fun e=>?_,fun e=>?_,fun e=>?_⟩
   .have:=D A d.kA.1;omega
   .have:=D W d.kW.1;omega
   .have:=D _ (h.co _ e).1;omega
   .have:=D _ (d.kev _ e);omega
 .have h1:=d.kA.2;have h2:=d.kW.2;rcases e with e|e<;>omega
theorem zP.new{w3 u w5:Q0}{Z:Nat->Obj->Prop}{b W X A:Nat}{K C:Nat->Prop}{t o r g ev:Q4}{mb:Nat}{Ms:List Nat}{n:Nat}{l:List Int}{H:gA}{P:Option iM}{a:iy}{maybe:List (Nat×List E)}{ever:List E}{armed:Bool}(h:nH w3 b Z W X A K C t o r g ev mb Ms n l H P a maybe ever armed)(V:Bb=G (Q w3))(U:G (Q w3)<G (Q u))(y:∀j,Dh v j->K j/\j≠A/\j≠W/\Rl o≠N j/\Rl ev≠N j)(q:jW w5 Bb n l t' o' r g bA)(D:∀j,Rl o'=N j->Rl o=N j\/G (Q u)<=j)(F:∀j,Rl t'=N j->Rl t=N j\/Dh v j\/G (Q u)<=j)(B:gE w5 dv 1 (O dn) (jr dn))(s:∀j,Rl dv=N j->G (Q u)<=j/\j<G (Q w5)):zP w5 (Kn K w3 w5) C A W b n l o r g ev Bb t' o' bA dv dn:=by
 have m:=h.x.lt;have d:∀j,G (Q w3)<=j->j≠A/\j≠W/\Rl o≠N j/\Rl ev≠N j/\¬C j:=fun j hj=>⟨fun e=>by have:=m A h.kA.1;omega,fun e=>by have:=m W h.kW.1;omega,fun e=>by have:=m j (h.ko j e).1;omega,fun e=>by have:=m j (h.kev j e);omega,fun e=>by have:=m j (h.c j e).1;omega⟩;obtain⟨M,b2,R,S,-⟩:=d Bb (by omega);refine⟨q,⟨.inr ⟨by omega,gm q.row⟩,M,b2,R,S⟩,fun j e=>?_,fun j e=>?_,B,fun j e=>?_⟩
 .rcases F j e with i|i|i
  .obtain⟨c1,c2,c3,c4,c5⟩:=h.c j (h.ct j i);exact⟨.inl c1,c2,c3,c4,c5⟩
  .obtain⟨c1,c2,c3,c4,c5⟩:=y j i;exact⟨.inl c1,c2,c3,c4,c5⟩
  .obtain⟨c2,c3,c4,c5,-⟩:=d j (by omega);exact⟨.inr ⟨by omega,q.lt j (.inl e)⟩,c2,c3,c4,c5⟩
 .rcases D j e with i|i
  .exact⟨.inl (h.ko j i).1,(h.ko j i).2,fun hc=>(h.c j hc).2.2.2.1 i⟩
  .exact⟨.inr ⟨by omega,gS.iA q.out.own j e⟩,by have:=h.lt;omega,(d j (by omega)).2.2.2.2⟩
 .obtain⟨c2,c3,c4,c5,-⟩:=d j (by have:=(s j e).1;omega);exact⟨.inr ⟨by have:=(s j e).1;omega,(s j e).2⟩,c2,c3,c5⟩
theorem zP.may{w:Q0}{Z:Nat->Obj->Prop}{b W X A:Nat}{K C:Nat->Prop}{t o r g ev:Q4}{mb d:Nat}{Ms:List Nat}{n:Nat}{l:List Int}{H:gA}{P:Option iM}{a:iy}{maybe:List (Nat×List E)}{ever:List E}{armed:Bool}(h:zP w K C A W b n l o r g ev Bb t' o' bA dv dn)(y:nH w b Z W X A K C t o r g ev mb Ms n l H P a maybe ever armed)(F:gR (fun j=>j=W) w w')(D:w'.heap[W]?=N (.cells #[Q5 (N ⟨X,0,J⟩),Q5 (N ⟨A,0,J⟩),Q6 (N ⟨d,0,J⟩) 2 2,ev,Rh armed] 58 (0,0)))(S:w'.heap[d]?=N (.cells #[Q5 (N ⟨A,0,J⟩),Q5 (N ⟨Bb,0,J⟩)] 55 (0,0)))(R:G (Q w)<=d):
  nH w' b Z W X A (Kn K w w') (fun j=>(C j\/j=Bb\/Rl t'=N j)\/j=d) t o r g ev d [A,Bb] n l H P a [(a.V,a.T),(bA.V,bA.T)] ever armed/\zP w' (Kn K w w') (fun j=>(C j\/j=Bb\/Rl t'=N j)\/j=d) A W b n l o r g ev Bb t' o' bA dv dn/\Below b w w':=by
 have hm:∀(i M:Nat) m,[A,Bb][i]?=N M->[(a.V,a.T),(bA.V,bA.T)][i]?=N m->wH w (fun j=>C j\/j=Bb\/Rl t'=N j) n r A M m/\(M=A->m=(a.V,a.T)):=fun i M m q s=>by
  match i,q,s with
  | 0,q,s=>simp only[aY,dz]at q s;subst q s;exact⟨wH.self y.rg fun j e=>.inl (y.ct j e),fun _=>rfl⟩
  | 1,q,s=>simp only[aX,aY,dz]at q s;subst q s;exact⟨⟨.inl (.inr (.inl rfl)),t',_,_,_,_,_,_,_,h.rg.row,h.rg.T,fun j e=>.inr (.inr e)⟩,fun e=>absurd e h.cB.2.1⟩
  | i+2,q,s=>simp at q
 obtain⟨h1,U⟩:=y.QB (Ms':=[A,Bb]) F D S R rfl (aq 2) hm (fun j=>.inl) fun j B=>by
  rcases B with B|rfl|B
  .exact y.c j B
  .exact h.cB
  .exact h.ct j B
 have u:=h.ext (K':=Kn K w w') (ev':=ev) y F (fun j _ e=>.inl e) (fun _=>.inl) fun _=>.inl;refine⟨h1,⟨u.rg,u.cB,u.ct,fun j e=>⟨(u.co j e).1,(u.co j e).2.1,fun hc=>?_⟩,u.dvs,u.cd⟩,U⟩;rcases hc with (hc|rfl|hc)|rfl
 .exact(u.co j e).2.2 hc
 .exact h.rg.sepA.2.2.2 e
 .exact(h.rg.sep j e).1 hc
 .have:=y.x.lt j (h.co j e).1;omega
section
variable {w:Q0} {Z:Nat->Obj->Prop} {b W X A:Nat} {K C:Nat->Prop} {t o r g ev:Q4} {mb:Nat} {Ms:List Nat} {n:Nat} {l:List Int} {H:gA} {P:Option iM} {p:iM} {a:iy} {maybe:List (Nat×List E)} {ever:List E} {armed:Bool}
end
theorem jW.begun{w:Q0}{A n:Nat}{l:List Int}{t o r g:Q4}{a:iy}(h:jW w A n l t o r g a)(v k:Nat)(s:w'=(((Rp w ⟨A,7,J⟩ (Rh true)).setCell ⟨A,8,J⟩ (I Re (v:Nat))).setCell ⟨A,9,J⟩ (I Y (k:Nat))).setCell ⟨A,10,J⟩ (Q6 J 0 0)):
  jW w' A n l t o r (Q6 J 0 0) {a with me:=N (v,k,[])}/\gR (fun j=>j=A) w w':=by
 subst s;have d:gR (fun j=>j=A) w ((((Rp w ⟨A,7,J⟩ (Rh true)).setCell ⟨A,8,J⟩ (I Re (v:Nat))).setCell ⟨A,9,J⟩ (I Y (k:Nat))).setCell ⟨A,10,J⟩ (Q6 J 0 0)):=((((gR.refl (fun j=>j=A) w).setCell ⟨A,7,J⟩ _ (.inl rfl)).setCell ⟨A,8,J⟩ _ (.inl rfl)).setCell ⟨A,9,J⟩ _ (.inl rfl)).setCell ⟨A,10,J⟩ _ (.inl rfl);have u:=QN _ _ 10 (Q6 J 0 0) (QN _ _ 9 (I Y (k:Nat)) (QN _ _ 8 (I Re (v:Nat)) (QN _ _ 7 (Rh true) h.row)));obtain⟨s1,s2,x,q⟩:=h.sepA;refine⟨⟨u,gE.frame h.T fun b e i=>d.block b i fun m=>s1 (by rw[e,m]),⟨h.out.own.frame d.size fun b e i=>d.block b i fun m=>q (by rw[e,m]),h.out.typ.frame fun b e i=>d.block b i fun m=>q (by rw[e,m])⟩,gE.frame h.room fun b e i=>d.block b i fun m=>s2 (by rw[e,m]),gE.nil _ _ _ _,fun j e=>⟨(h.sep j e).1,(h.sep j e).2.1,by simp[Value.ownBlock]⟩,⟨s1,s2,by simp[Value.ownBlock],q⟩,fun j e=>?_⟩,d⟩;refine ae (h.lt j (e.imp id (Or.imp id fun e=>?_))) d.size;simp[Value.ownBlock]at e
theorem CP(A n:Nat)(l:List Int)(t o r g:Q4)(a:iy)(body:gw)(w:Q0)(h:jW w A n l t o r g a)(U:a.mN)(hb:O body<=im):
  Calls prog 75 #[Q5 (N ⟨A,0,J⟩),Q7 ⟨Rm body⟩] w fun e w'=>e=.returned (Rc #[])/\mr w A n l t o r g (a.mW body) w':=by
 unfold im at hb;have d:=gj h;have HF:=gj U;have u:=gj (fun k p W (hW:jW W A n l t o r g a) (hk:k<256)=>nu A n l t o r g a k p W hW U hk);have X:=U.out;clear h U;go_enter func75,ntmps75;by_cases h9:O body=9
 .have a0:((O body:Int)==9)=true:=by rw[h9];rfl
  have br:(O body:Int)=9:=by omega
  have D:gy (a.mW body=if ij (j6 (body.take 8))=false then a.pW 4 else if(body.getD 8 0).toNat<1\/16<(body.getD 8 0).toNat then a.pW 5 else if j6 (body.take 8)<=a.V then a.oO else {a with me:=N (j6 (body.take 8),(body.getD 8 0).toNat,[])}.lX):=gj (by unfold iy.mW;rw[af (by omega),af (by omega)]);go_wp2_with fail;go_loop [5,6] (fun v i=>∃k:Nat,k<=8/\i=I Y (k:Int)/\v=I Re ((j6 (body.take k):Nat):Int)) (fun _ i=>8-(intOf i).toNat)
  case atStart=>exact⟨0,by omega,rfl,rfl⟩
  case round=>
   obtain⟨k,hk,rfl,rfl⟩:=hrel;by_cases a1:k<8
   .have ba:(k:Int)<8:=by omega
    have Z:=pR k body (by omega);have F:j6 (body.take k)<256^7:=ae Z (dU (by decide) (by omega));have H:=gj (rB body k (by omega));obtain⟨x,y⟩:∃x,body[k]'(by omega)=x:=⟨_,rfl⟩;have i0:∀w,(Instr.index 9 (Q7 ⟨Rm body⟩) (I Y (k:Int))).run prog w=.ok (I .u8 x.toNat) w:=fun w=>gW underlying9 _ _ _ x (by omega) (by rw[cj,ah (by omega),y]) w;rw[y]at H;have a2:=x.toNat_lt;clear y Z;obtain⟨v,E⟩:∃v,v=j6 (body.take k):=⟨_,rfl⟩;rw[<-E]at F H⊢;clear E;have E:v<72057594037927936:=F;have bs:IntKind.u64.wrap (256*(v:Int))=((256*v:Nat):Int):=by rw[IntWalk.u64_in _ (by omega)];omega
    clear F;go_wp2_with fail;refine⟨⟨k+1,by omega,rfl,?_⟩,?_⟩
    .rw[H.o];congr 1;omega
    .simp[intOf];omega
   .obtain rfl:k=8:=by omega
    clear hk a1;have B:=pR 8 body (by omega);obtain⟨v,E⟩:∃v,v=j6 (body.take 8):=⟨_,rfl⟩;rw[<-E]at D B⊢;have am:v<18446744073709551616:=B;clear E B;obtain⟨x,y⟩:∃x,body.getD 8 0=x:=⟨_,rfl⟩;have i0:∀w,(Instr.index 9 (Q7 ⟨Rm body⟩) (I Y 8)).run prog w=.ok (I .u8 x.toNat) w:=fun w=>gW underlying9 _ _ _ x (by omega) (by show body[8]?=N x;rw[<-y,aD,ah (by omega)];rfl) w;have a2:=x.toNat_lt;rw[y]at D;clear y;have HV:=gj (fun W=>jU v W am);go_wp2_with fail;refine(HV.o _).mono ?_;rintro e w4 ⟨rfl,rfl⟩;have a3:=gm d.o.row;have c0:=gr 0 d.o.row;cases s:ij v with
    | false=>have q:gy (a.mW body=a.pW 4):=gj (by rw[D.o,aw s]);clear s D;go_wp2_with fail;refine(u.o 4 0 _ d.o (by omega)).mono ?_;rintro e w5 ⟨rfl,b⟩;go_wp2;go_end0;exact⟨rfl,by rw[q.o];exact b⟩
    | true=>
     have m:=D.o;rw[af (by rw[s];decide)]at m;clear s D;by_cases M:x.toNat<1\/16<x.toNat
     .have q:gy (a.mW body=a.pW 5):=gj (by rw[m,aw M]);clear m;by_cases aa:x.toNat<1
      .have R:(x.toNat:Int)<1:=by omega
       clear M aa;go_wp2_with fail;refine(u.o 5 0 _ d.o (by omega)).mono ?_;rintro e w5 ⟨rfl,b⟩;go_wp2;go_end0;exact⟨rfl,by rw[q.o];exact b⟩
      .have R:¬(x.toNat:Int)<1:=by omega
       have ap:(16:Int)<(x.toNat:Int):=by omega
       clear M aa;go_wp2_with fail;refine(u.o 5 0 _ d.o (by omega)).mono ?_;rintro e w5 ⟨rfl,b⟩;go_wp2;go_end0;exact⟨rfl,by rw[q.o];exact b⟩
     .rw[af M]at m;have R:¬(x.toNat:Int)<1:=by omega
      have ap:¬(16:Int)<(x.toNat:Int):=by omega
      have hV:=HF.o.v;clear M;by_cases C:v<=a.V
      .have q:gy (a.mW body=a.oO):=gj (by rw[m,aw C]);have av:(v:Int)<=(a.V:Int):=by omega
       clear m C;go_wp2_with fail;refine(mS a.V _ (by omega)).mono ?_;rintro e w5 ⟨rfl,ag⟩;go_wp2_with fail;refine(pr A n l t o r g a 17 17 (nC a.V) w5 (d.o.below ag) (by decide) (by rw[iB];decide) X).mono ?_;intro e w6 S;obtain⟨rfl,b⟩:=S.go;go_wp2;go_end0;exact⟨rfl,by rw[q.o];exact mr.first ag b⟩
      .have q:gy (a.mW body={a with me:=N (v,x.toNat,[])}.lX):=gj (by rw[m,af C]);have av:¬(v:Int)<=(a.V:Int):=by omega
       clear m C;have ak:=gj (d.o.begun v x.toNat rfl);have z7:=gD 7 d.o.row;have z8:=gD 8 d.o.row;have z9:=gD 9 d.o.row;have a4:=gD 10 d.o.row;have c7:=gr 7 d.o.row;have c8:=gr 8 d.o.row;have c9:=gr 9 d.o.row;have a5:=gr 10 d.o.row;go_upto_region 16 with fail;generalize (((Rp w ⟨A,7,J⟩ (Rh true)).setCell ⟨A,8,J⟩ (I Re (v:Nat))).setCell ⟨A,9,J⟩ (I Y (x.toNat:Nat))).setCell ⟨A,10,J⟩ (Q6 J 0 0)=w5 at *
       clear z7 z8 z9 a4 c7 c8 c9 a5 c0 a3;go_wp2_with fail;refine(rq A n l t o r (Q6 J 0 0) {a with me:=N (v,x.toNat,[])} w5 ak.o.1 X (by show(0:Nat)<256;decide)).mono ?_;intro e w6 S;obtain⟨rfl,b⟩:=S.go;go_wp2;go_end0;exact⟨rfl,by rw[q.o];exact mr.trans (ak.o.2.mono fun j hj=>.inl hj) (fun j e=>.inl e) (fun j e=>by simp[Value.ownBlock]at e) b⟩
 .have a0:((O body:Int)==9)=false:=ar.2 (by omega);by_cases hg:9<O body
  .have q:gy (a.mW body=a.pW 2):=gj (by unfold iy.mW;rw[af (by omega),aw hg]);have a6:(9:Int)<(O body:Int):=by omega
   clear h9 hg;go_wp2_with fail;refine(u.o 2 0 _ d.o (by omega)).mono ?_;rintro e w5 ⟨rfl,b⟩;go_wp2;refine ai (v:=Rc #[]) (by simp[results,results75,go_sem]) rfl ?_;exact⟨rfl,by rw[q.o];exact b⟩
  .have q:gy (a.mW body=a.pW 1):=gj (by unfold iy.mW;rw[aw (by omega)]);have a6:¬(9:Int)<(O body:Int):=by omega
   clear h9 hg;go_wp2_with fail;refine(u.o 1 0 _ d.o (by omega)).mono ?_;rintro e w5 ⟨rfl,b⟩;go_wp2;refine ai (v:=Rc #[]) (by simp[results,results75,go_sem]) rfl ?_;exact⟨rfl,by rw[q.o];exact b⟩
end Go.Proofs.YtkkfmkhbdoeglabGreatDoor
