/- Lemmas of the proof. No condition. -/
import Derived.Deep.CutRange
import Derived.Laws.IdiomCopy
import Derived.Shelf.Spec.SlicesInsert
import Derived.Test.YtkkfmkhbdoeglabGreatDoorV21
namespace Go.Proofs.YtkkfmkhbdoeglabGreatDoor
open Go renaming World->Q0,Value->Q4,Calls->Rg,TypeId->Ri
open Go.Obj renaming cells->Q1
open Go.Value renaming int->I,pointer->Q5,slice->Q6
open Go.World renaming heap->Q
open List renaming length->O
open Option renaming none->J,some->N
open _root_.Array renaming size->G
open Go.Proofs.Tryz
open Go.RowKit Go.Shelf
variable{H:gA}{M:Nat->Prop}{P:Option iM}{X cap g h n:Nat}{e:Ri}{p:iM}{w w' w1:Q0}
theorem gS.setCells{base k go:Nat}{l:List Q4}(h:gS w base k (Q6 (N ⟨g,go,J⟩) n cap) n l)(p:Nat)(b:List Q4)(C:p+O b<=O l):
  gS (w.setCells g (go+p) b) base k (Q6 (N ⟨g,go,J⟩) n cap) n (l.take p++b++l.drop (p+O b)):=by
 obtain⟨hl,h|⟨g',y,cap',e,u,r,s,hm,hc,q⟩⟩:=h
 .cases h.1
 .cases e;have B:n*k<=cap*k:=cQ _ s;have d:∀j,j<O b->(World.cell? w ⟨g,go+p+j,J⟩).isSome=true:=fun j D=>by rw[bT];exact(q (p+j) (by omega)).1
  refine⟨by simp only[ab,ax,bu];omega,.inr ⟨g,go,cap,rfl,u,by rw[oW];exact r,s,hm,fun i m=>?_,fun i m=>⟨?_,?_⟩⟩⟩
  .have o:i<O l:=by simp only[ab,ax,bu]at m;omega
   have E:(l.take p).length=p:=by rw[ax];omega
   by_cases h1:i<p
   .rw[World.cell?_setCells_out g b (go+p) w ⟨g,go+i,J⟩ (fun _ _=>.inl (by show go+i<go+p;omega)),hc i o];congr 1;rw[dr (by simp only[ab];omega),dr (by omega),List.getElem_take]
   .by_cases x:i<p+O b
    .have:=World.cell?_setCells_in g b (go+p) w d (i-p) (by omega);rw[show go+p+(i-p)=go+i by omega]at this;rw[this];congr 1;rw[dr (by simp only[ab];omega),eu (by omega)];congr 1;omega
    .rw[World.cell?_setCells_out g b (go+p) w ⟨g,go+i,J⟩ (fun _ _=>.inr (by show go+p+O b<=go+i;omega)),hc i o];congr 1;rw[eu (by simp only[ab];omega),List.getElem_drop];congr 1;simp only[ab];omega
  .by_cases x:p<=i/\i<p+O b
   .have:=World.cell?_setCells_in g b (go+p) w d (i-p) (by omega);rw[show go+p+(i-p)=go+i by omega]at this;rw[this];rfl
   .rw[World.cell?_setCells_out g b (go+p) w ⟨g,go+i,J⟩ (fun _ _=>by show go+i<go+p\/go+p+O b<=go+i;omega)];exact(q i m).1
  .rw[World.frozen?_setCells];exact(q i m).2
theorem tf{b:Nat}: ∀(i:List Q4) (o:Nat) (w:Q0),(∃C d,w.heap[b]?=N (Q1 C e d))->∃C d,(w.setCells b o i).heap[b]?=N (Q1 C e d)
 | [],_,_,h=>h
 | v::i,o,w,h=>by rw[World.setCells];refine tf i _ _ ?_;obtain⟨C,d,j⟩:=h;refine⟨C.setIfInBounds o v,d,?_⟩;unfold World.setCell;simp;obtain⟨h1,l⟩:=cx.1 j;simp[fj,j]
theorem gQ.setCells{go:Nat}(h:gQ w (Q6 (N ⟨g,go,J⟩) n cap) e)(p:Nat)(d:List Q4):gQ (w.setCells g p d) (Q6 (N ⟨g,go,J⟩) n cap) e:=fun b i=>by cases i;exact tf d p w (h g rfl)
def lM(w:Q0)(M:Nat->Prop)(X:Nat)(H:gA)(P:Option iM):Prop:=∃h b,w.heap[X]?=N (Q1 #[Q5 (N ⟨h,0,J⟩),b] 136 (0,0))/\M X/\match P with
 | none=>b=Q5 J/\∃F,iU w F h H/\∀k,F k->M k/\k≠X
 | some p=>∃a d,b=Q5 (N ⟨a,0,none⟩)/\Kz w d a h H p/\∀k,d k->M k/\k≠X
def mD(w:Q0)(M:Nat->Prop)(X:Nat)(H:gA)(P:Option iM)(w':Q0):Prop:=∃b,lM w' b X H P/\(∀k,b k->M k\/G (Q w)<=k)/\gR M w w'
theorem lM.frame{D:Nat->Prop}(q:lM w M X H P)(d:gR D w w')(i:∀k,M k->¬D k):lM w' M X H P:=by
 obtain⟨h,r,h1,m,o⟩:=q;refine⟨h,r,d.at (i X m) h1,m,?_⟩;cases P with
 | none=>obtain⟨j,F,l,b⟩:=o;exact⟨j,F,l.ext d fun k hk=>i k (b k hk).1,b⟩
 | some p=>obtain⟨a,s,j,l,b⟩:=o;exact⟨a,s,j,l.frame d fun k hk=>i k (b k hk).1,b⟩
theorem lM.below(b:lM w M X H P)(d:Below (G (Q w)) w w'):lM w' M X H P:=b.frame (D:=fun _=>False) (gR.gO d) fun _ _=>id
theorem mD.iN(b:Below (G (Q w)) w w1)(d:mD w1 M X H P w'):mD w M X H P w':=by obtain⟨i,h1,j,l⟩:=d;exact⟨i,h1,fun k hk=>(j k hk).imp id (au b.size),(gR.gO b).trans l⟩
theorem mD.below(d:mD w M X H P w1)(b:Below (G (Q w1)) w1 w'):mD w M X H P w':=by obtain⟨i,h1,j,l⟩:=d;exact⟨i,h1.below b,j,l.trans (gR.gO b)⟩
theorem lM.go(b:lM w M X H P):mD w M X H P w:=⟨M,b,fun _=>.inl,gR.refl _ _⟩
theorem lM.Lp(d:lM w M X H (N p)):∃h a b,w.heap[X]?=N (Q1 #[Q5 (N ⟨h,0,J⟩),Q5 (N ⟨a,0,J⟩)] 136 (0,0))/\M X/\Kz w b a h H p/\∀k,b k->M k/\k≠X:=by obtain⟨h,m,h1,i,a,b,rfl,j,l⟩:=d;exact⟨h,a,b,h1,i,j,l⟩
theorem nS.Pd{i:Nat->Prop}{a:Nat}(b:w.heap[X]?=N (Q1 #[Q5 (N ⟨h,0,J⟩),Q5 (N ⟨a,0,J⟩)] 136 (0,0)))(l:M X)(d:∀k,i k->M k/\k≠X)(m:nS w i a h H p w'):mD w M X H (N p) w':=by
 obtain⟨o,g1,g2,j⟩:=m;have q:=gm b;refine⟨fun k=>M k\/G (Q w)<=k,⟨h,_,j.at (fun e=>(d X e).2 rfl) b,.inl l,a,o,rfl,g1,fun k hk=>?_⟩,fun k hk=>hk,j.mono fun k hk=>(d k hk).1⟩;rcases g2 k hk with e|e
 .exact⟨.inl (d k e).1,(d k e).2⟩
 .exact⟨.inr e,by omega⟩
theorem lM.kQ(q:lM w M X H P):∃h i F,w.heap[X]?=N (Q1 #[Q5 (N ⟨h,0,J⟩),i] 136 (0,0))/\M X/\iU w F h H/\(∀k,F k->M k/\k≠X)/\(i=Q5 J↔P=J)/\∃a,i=Q5 a:=by
 obtain⟨h,i,h1,m,o⟩:=q;cases P with
 | none=>obtain⟨rfl,F,j,l⟩:=o;exact⟨h,_,F,h1,m,j,l,by simp,_,rfl⟩
 | some p=>obtain⟨a,s,rfl,⟨F,b,d,x,r,j⟩,l⟩:=o;exact⟨h,_,F,h1,m,r.kQ,fun k hk=>l k (j k (.inl hk)),by simp,_,rfl⟩
theorem OB(M:Nat->Prop)(X:Nat)(H:gA)(P:Option iM)(w:Q0)(i:lM w M X H P):
  Rg prog 48 #[Q5 (N ⟨X,0,J⟩)] w fun e w'=>e=.returned (.bool P.isSome)/\w'=w:=by
 obtain⟨h,j,h1,-,b⟩:=i;cases P with
 | none=>obtain⟨rfl,-⟩:=b;have c1:=gr 1 h1;have d:=gm h1;clear h1;go_enter func48,ntmps48;go_wp2;go_ret;exact⟨rfl,rfl⟩
 | some p=>obtain⟨a,-,rfl,-⟩:=b;have c1:=gr 1 h1;have d:=gm h1;clear h1;go_enter func48,ntmps48;go_wp2;go_ret;exact⟨rfl,rfl⟩
theorem EH(M:Nat->Prop)(X:Nat)(H:gA)(p:iM)(w:Q0)(i:lM w M X H (N p)):
  Rg prog 40 #[Q5 (N ⟨X,0,J⟩)] w fun e w'=>e=.returned (I .u64 (p.a.V:Nat))/\w'=w:=by
 obtain⟨h,a,m,h1,-,⟨F,b,d,x,hm,-⟩,-⟩:=i.Lp;have c1:=gr 1 h1;have l:=gm h1;have j:=gj hm.ag;clear h1 hm;go_enter func40,ntmps40;go_wp2_with fail;refine(Cw a h p x b d w j.o).mono ?_;rintro e w1 ⟨rfl,rfl⟩;go_wp2;go_ret;exact⟨rfl,rfl⟩
theorem lM.gU(y:lM w M X H P):∃h r F x,w.heap[X]?=N (Q1 #[Q5 (N ⟨h,0,J⟩),r] 136 (0,0))/\ji w F h x H/\X≠h/\∀w' H' x',ji w' F h x' H'->gR (fun k=>k=h) w w'->mD w M X H' P w':=by
 obtain⟨h,r,h1,s,u⟩:=y;cases P with
 | none=>obtain⟨rfl,F,⟨x,i⟩,j⟩:=u;refine⟨h,_,F,x,h1,i,fun e=>(j h i.qL.1).2 e.symm,fun w' H' x' q l=>⟨M,⟨h,_,l.at (fun e=>(j h i.qL.1).2 e.symm) h1,s,rfl,F,⟨x',q⟩,j⟩,fun k=>.inl,l.mono fun k e=>e▸(j h i.qL.1).1⟩⟩
 | some p=>obtain⟨a,B,rfl,⟨F,b,d,C,hm,o⟩,j⟩:=u;obtain⟨x,i⟩:=hm.kQ;have m:=j h (o h (.inl i.qL.1));refine⟨h,_,F,x,h1,i,fun e=>m.2 e.symm,fun w' H' x' q l=>⟨M,⟨h,_,l.at (fun e=>m.2 e.symm) h1,s,a,B,rfl,⟨F,b,d,C,⟨⟨x',q⟩,hm.ag.frame l (fun k hk e=>hm.fg h i.qL.1 (e▸hk)) fun k hk e=>hm.fo h i.qL.1 (e▸hk),hm.fg,hm.fo⟩,o⟩,j⟩,fun k=>.inl,l.mono fun k e=>e▸m.1⟩⟩
theorem Gj(M:Nat->Prop)(X:Nat)(H:gA)(P:Option iM)(w:Q0)(q:lM w M X H P):
  Rg prog 26 #[Q5 (N ⟨X,0,J⟩)] w fun e w'=>e=.returned (I .i64 H.il)/\mD w M X {H with il:=0} P w'/\G (Q w')=G (Q w):=by
 obtain⟨h,B,F,x,h1,i,C,l⟩:=q.gU;have b:w.heap[h]?=_:=i.dp.row;have r:=gj b;unfold HV.cells at b;have c0:=gr 0 h1;have d3:=gr 6 b;have z3:=gD 6 b;have j:=i.il;have u:=gm h1;have y:=gm b;have d:=gj i;have s:=gj l;rw[j]at d3;clear h1 i l b j;go_enter func26,ntmps26;go_wp2;go_ret;have m:gR (fun k=>k=h) w (World.setCell w ⟨h,6,J⟩ (I .i64 0)):=(gR.refl _ w).setCell ⟨h,6,J⟩ _ (.inl rfl);exact⟨rfl,s.o _ _ {x with il:=0} (d.o.row (QN _ _ 6 _ r.o) (QO _ _ _) m ⟨rfl,rfl,rfl,rfl,rfl,rfl⟩ ⟨rfl,rfl,rfl,rfl,rfl,rfl⟩ ⟨d.o.dp.left,d.o.dp.ir,d.o.fail,rfl⟩ d.o.dp.lb) m,QO _ _ _⟩
theorem ji.Qt{F:Nat->Prop}{x:HV}(b:ji w F h x H)(h1:iQ w1 h {x with iF:=Q6 J 0 0})(B:G (Q w1)=G (Q w))(s:gR (fun i=>i=h) w w1):
  ji w1 F h {x with iF:=Q6 J 0 0} {H with dp:={H.dp with iF:=[]}}:=by
 have m:w.heap[h]?=_:=b.dp.row;have l:G (Q w)<=G (Q w1):=by omega
 have q:∀(k:Nat) (C:Array Q4) (t:Ri) (d:Nat×Nat),w.heap[k]?=N (Q1 C t d)->t≠125->w1.heap[k]?=w.heap[k]?:=fun k C t d hk u=>s.block k (gm hk) fun e=>by have y:k=h:=e;rw[y,m]at hk;cases hk;exact u rfl
 have j:=b.dp;obtain⟨f1,f2,f3⟩:=b.qL;refine⟨⟨h1,j.left,j.ir,j.room,j.jh.iI (s.block _ j.jh.lt fun e=>j.jh.mZ m (show x.r=h from e).symm),gS.nil _ _ _,gQ.nil _ _,⟨aJ _,aJ _⟩,j.lb⟩,b.fail,b.il,?_,?_,?_,b.pV,⟨f1,f2,fun k e=>by simp[Value.ownBlock]at e⟩,fun k hk=>ae (b.lt k hk) l⟩
 .exact b.held.iI l fun k C t d hk o _=>q k C t d hk (by rcases o with rfl|rfl<;>decide)
 .exact b.gG.iI l fun k C t d hk o _=>q k C t d hk (by rcases o with rfl|rfl<;>decide)
 .exact b.gX.iI l fun k C t d hk o _=>q k C t d hk (by rcases o with rfl|rfl<;>decide)
theorem MX(M:Nat->Prop)(X:Nat)(H:gA)(P:Option iM)(w:Q0)(B:lM w M X H P):
  Rg prog 31 #[Q5 (N ⟨X,0,J⟩)] w fun e w'=>∃v,e=.returned v/\gE w' v 1 (O H.dp.iF) (jr H.dp.iF)/\mD w M X {H with dp:={H.dp with iF:=[]}} P w'/\G (Q w')=G (Q w):=by
 obtain⟨h,W,F,x,h1,j,Z,r⟩:=B.gU;have d:w.heap[h]?=_:=j.dp.row;have s:=gj d;obtain⟨la,lc,i⟩:=j.dp.own.shape;unfold HV.cells at d;have c0:=gr 0 h1;have d3:=gr 11 d;have z3:=gD 11 d;have U:=gm h1;have V:=gm d;have m:=gj j;have D:=gj r;have u:=gj i;rw[i]at d3;clear h1 j r d i;go_enter func31,ntmps31;go_wp2;go_ret;have q:gR (fun k=>k=h) w (World.setCell w ⟨h,11,J⟩ (Q6 J 0 0)):=(gR.refl _ w).setCell ⟨h,11,J⟩ _ (.inl rfl);refine⟨_,rfl,?_,D.o _ _ _ (m.o.Qt (QN _ _ 11 _ s.o) (QO _ _ _) q) q,QO _ _ _⟩;have y:=m.o.dp.own;have l:=m.o.dp.qN;rw[u.o]at y l;refine(y.frame (Nat.le_of_eq (QO _ _ _).symm) fun b e E=>?_).sliceAt;obtain⟨C,fz,R⟩:=l b e;exact q.block b E fun S=>kK R s.o (by decide) S
end Go.Proofs.YtkkfmkhbdoeglabGreatDoor
