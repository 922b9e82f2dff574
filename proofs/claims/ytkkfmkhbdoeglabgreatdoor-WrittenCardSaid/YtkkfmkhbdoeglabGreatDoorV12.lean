/- Lemmas of the proof. No condition. -/
import Derived.Deep.CutBlock
import Derived.Test.YtkkfmkhbdoeglabGreatDoorV11
set_option maxHeartbeats 4000000
set_option maxRecDepth 100000
namespace Go.Proofs.YtkkfmkhbdoeglabGreatDoor
open Go renaming World->Q0,Value->Q4,Calls->Rg
open Go.Ending renaming returned->Ra
open Go.IntKind renaming i64->Y,u64->Re,u8->Rf
open Go.Obj renaming cells->Q1
open Go.RowKit renaming Below->Q8
open Go.Value renaming int->I,pointer->Q5,slice->Q6,string->Q7,agg->Q9,iface->Rb,tuple->Rc,ownBlock->Rl
open Go.World renaming heap->Q,cell?->Rn,alloc->Ro,setCell->Rp
open List renaming length->O,toArray->Rm
open Option renaming none->J,some->N
open _root_.Array renaming size->G
open Go.Proofs.Tryz
open Go.RowKit
variable{B at' k n p q:Nat}{H H1:gA}{c':Cu}{data l s:gw}{f:Nat×Nat}{t:UInt8}{v:Q4}{w w':Q0}{x:E}
def Ht(l:gw)(w:Q0)(e:Ending)(w':Q0):Prop:=
 Q8 (G (Q w)) w w'/\match tR l with
  | .inl (n,os)=>∃b,e=Ra (Rc #[Q9 #[I Re n,b],.nilIface])/\gS w' (G (Q w)) 4 b (O os) (iP os)
  | .inr (k,p)=>∃ev,e=Ra (Rc #[Q9 #[I Re 0,Q6 J 0 0],ev])/\mB w' (G (Q w)) ev k p
theorem jd.fault{base c:Nat}{cu:Cu}(h:jd w base c cu)(d:cu.f=N (k,p)):∃g,Rn w ⟨c,3,J⟩=N (Q5 (N ⟨g,0,J⟩))/\base<=g/\w.heap[g]?=N (Q1 #[I Y k,I Y p,.nilIface] 186 (0,0)):=by obtain⟨h1,m,o,q,v,fp,i,r,s,b⟩:=h;rw[d]at b;obtain⟨g,rfl,j,l⟩:=b;exact⟨g,aP w c 3 _ _ _ i,j,l⟩
theorem gS.nt{base:Nat}{d:List Q4}(h:gS w base 4 v n d)(j:0<n):∀g,Rl v=N g->∀k m:Int,w.heap[g]?≠N (Q1 #[I Y k,I Y m,.nilIface] 186 (0,0)):=by
 intro g b k m e;obtain⟨_,⟨rfl,_⟩|⟨g',off,cap,rfl,_,_,hc,_,_,i⟩⟩:=h
 .cases b
 .cases b;have:=(i 3 (by omega)).1;unfold World.cell? at this;rw[e]at this;simp at this
def Ap(w5:Q0)(base c r D n V:Nat)(C:Cu)(i:Q4)(wr:Q0):Prop:=
 ∃(k:Nat) (cu:Cu) (d:List K) (os:List kv) (b:Q4),k<=n/\i=I Y k/\kX n C [] []=kX (n-k) cu d os/\O os=k/\(k=0->b=Q6 J 0 0)/\jd wr base c cu/\
  (cu.f=J->kg wr r d)/\wr.heap[D]?=N (Q1 #[I Re V,b] 51 (0,0))/\gS wr (r+1) 4 b (O os) (iP os)/\gR (fun i=>i=c\/i=r\/i=D) w5 wr
theorem Ap.step{w5 wr q s:Q0}{base c r D V:Nat}{C cu':Cu}{W:List K}{os:List kv}{o:kv}{B E:Option Addr}{l x:Nat}{X:Obj}(ap:kX n C [] []=kX (n-(k+1)) cu' (W++[(o.table,o.key)]) (os++[o]))(hk:k+1<=n)(av:O os=k)(Z:k=0->Q6 B (O os) l=Q6 J 0 0)(aa:jd q base c cu')(ag:cu'.f=J->kg q r (W++[(o.table,o.key)]))(D6:q.heap[D]?=N (Q1 #[I Re V,Q6 B (O os) l] 51 (0,0)))(y:gS q (r+1) 4 (Q6 B (O os) l) (O os) (iP os))(F:gS s (r+1) 4 (Q6 E (O os+1) x) (O os+1) (iP (os++[o])))(d:(Ro q X).grownBy s (Q6 B (O os) l).ownBlock)(hx:gR (fun i=>i=c\/i=r\/i=D) w5 wr)(u:gR (fun i=>i=c\/i=r) wr.drew q)(a0:c<D)(ba:D<r)(_hr:r<G (Q wr))(bb:G (Q w5)=r+1):
  Ap w5 base c r D n V C (I Y ((k+1:Nat):Int)) (Rp s ⟨D,1,J⟩ (Q6 E (O os+1) x)):=by
 have bc:G (Q wr)<=G (Q q):=u.size;have bi:G (Q q)<=G (Q s):=au (by simp) d.size;have M:s.grownBy (Rp s ⟨D,1,J⟩ (Q6 E (O os+1) x)) (N D):=jg (gJ s) 1 _;have R:∀b,(Q6 B (O os) l).ownBlock=N b->r+1<=b:=y.ie
 have U:s.heap[D]?=N (Q1 #[I Re V,Q6 B (O os) l] 51 (0,0)):=
  (d.block D (by simp;have:=gm D6;omega) (fun e=>by have:=R D e.symm;omega)).trans (gP q X D6)
 have ak:jd s base c cu':=by
  have ha:=aa.iI ((gJ q).alloc gH X);cases m:(Q6 B (O os) l).ownBlock with
  | none=>rw[m]at d;exact ha.iI ⟨d.os,d.tape,d.output,d.size,fun j hj=>d.block j hj (by simp)⟩
  | some b=>
   rw[m]at d;have hb:=R b m;have am:0<O os:=by
    by_cases h0:k=0
    .rw[Z h0]at m;cases m
    .omega
   refine ha.grown d (by omega) (fun k' m' e=>?_);have S:=y.iA b m;rw[heap_alloc_old q X S]at e;exact y.nt am b m k' m' e
 refine⟨k+1,cu',W++[(o.table,o.key)],os++[o],Q6 E (O os+1) x,hk,rfl,ap,by simp[av],fun h=>absurd h (by omega),?_,fun hf=>?_,?_,?_,?_⟩
 .exact ak.grown M a0 (fun k' m' e=>by rw[U]at e;simp at e)
 .have h1:=ag hf;refine ix.iI h1 ?_;have hl:=h1.lt;exact(M.block r (by omega) (fun e=>by cases e;omega)).trans ((d.block r (by simp;omega) (fun e=>by have:=R r e.symm;omega)).trans (heap_alloc_old q X hl))
 .exact QN s D 1 _ U
 .have e:(os++[o]).length=O os+1:=by simp
  rw[e];exact F.frame (by rw[QO];exact aq _) (fun b hb S=>M.block b S (fun e=>by cases e;have:=F.ie _ hb;omega))
 .have x1:gR (fun i=>i=c\/i=r\/i=D) w5 q:=hx.j8 (T:=fun i=>i=c\/i=r) ⟨u.os,u.tape,u.output,u.size,u.block⟩ (fun i e=>.inl (by rcases e with e|e;exact .inl e;exact .inr (.inl e)));have x2:=x1.alloc X;have x3:gR (fun i=>i=c\/i=r\/i=D) w5 s:=by
   cases m:(Q6 B (O os) l).ownBlock with
   | none=>rw[m]at d;exact x2.EU ⟨d.os,d.tape,d.output,d.size,fun j hj=>d.block j hj (by simp)⟩
   | some b=>rw[m]at d;exact x2.grow d (.inr (by have:=R b m;omega))
  exact x3.grow M (.inl (.inr (.inr rfl)))
theorem Ni(base c r:Nat)(cu cu':Cu)(b:List K)(o:kv)(w:Q0)(h:jd w base c cu)(hm:kg w r b)(m:gZ w)(d:2<=base)(q:base<=G (Q w))(j:c<r)(l:cu.op b=(cu',o)):
  Rg prog 187 #[Q5 (N ⟨c,0,J⟩),.map (N r)] w fun e w'=>e=Ra (Q9 #[I Y o.kind,I Y o.table,Q7 ⟨Rm o.key⟩,Q7 ⟨Rm o.val⟩])/\jd w' base c cu'/\(cu'.f=J->kg w' r (b++[(o.table,o.key)]))/\gR (fun i=>i=c\/i=r) w w':=by
 have h1:cu'=(cu.op b).1:=by rw[l]
 have s:o=(cu.op b).2:=by rw[l]
 subst h1 s;exact PO base c r cu b w h hm m d q j
theorem Kk{k:gw}(h:O k=1):∃a,k=[a]:=by
 match k,h with
 | [a],_=>exact⟨a,rfl⟩
theorem Aq(v:Q4)(l:gw)(w:Q0)(hv:gI w v l)(c4:∀b,Rl v=N b->b<G (Q w))(hl:O l<=im)(hg:gZ w):
  Rg prog 151 #[v] w (Ht l w):=by
 obtain⟨va,M,rfl,-,-⟩:=hv.gU;have ca:=hg.two;have HG:=gj hg;have bH:gI ((Ro w (Q1 #[I Re 0,Q6 J 0 0] 51)).alloc (Q1 #[Q6 va (O l) M,I Y 0,I Y 0,Q5 J] 254)) (Q6 va (O l) M) l:=hv.below (((gJ w).alloc gH _).alloc (by simp) _);have ag:jd ((Ro w (Q1 #[I Re 0,Q6 J 0 0] 51)).alloc (Q1 #[Q6 va (O l) M,I Y 0,I Y 0,Q5 J] 254)) (G (Q w)) (G (Q w)+1) ⟨l,0,0,J⟩:=by refine⟨aJ _,aq _,hl,by omega,Q6 va (O l) M,J,?_,bH,fun b hb=>by have:=c4 b hb;omega,rfl⟩;have:=gB (Ro w (Q1 #[I Re 0,Q6 J 0 0] 51)) (Q1 #[Q6 va (O l) M,I Y 0,I Y 0,Q5 J] 254);simpa using this
 have c5:=gj ag;clear ag bH hg;obtain⟨a,hA⟩:∃a,a=Cu.take ⟨l,0,0,J⟩ 8:=⟨_,rfl⟩;have HA:=gj hA;go_enter func151,ntmps151;go_wp2_with fail;refine(qv (G (Q w)) (G (Q w)+1) ⟨l,0,0,J⟩ _ c5.o (by simp;omega)).mono ?_;rintro e w1 ⟨rfl,a5,R⟩;rw[<-HA.o]at a5⊢;clear hA;have fi:G (Q w)+1+1<=G (Q w1):=by simpa using R.size
 have A1:gy (w1.heap[G (Q w)]?=N (Q1 #[I Re 0,Q6 J 0 0] 51 (0,0))):=gj (jS R (gP _ _ (gB w _)) (by omega));have gl:Q8 (G (Q w)) w w1:=⟨R.os,R.tape,R.output,by omega,fun k hk=>(R.block k (by simp;omega) (fun e=>by cases e;omega)).trans ((heap_alloc_old _ _ (by simp;omega)).trans (heap_alloc_old _ _ hk))⟩;obtain⟨V,hV⟩:∃V,V=j6 a.2:=⟨_,rfl⟩;have HV:=gj hV;rw[<-hV];clear hV;have D1:=gB w1 (Q1 #[I Re V,Q6 J 0 0] 51);have bI:=gj D1;clear D1;go_wp2_with fail;refine(sJ V _).mono ?_;rintro e w2 ⟨rfl,rfl⟩;go_wp2_with fail;refine(kZ (G (Q w)) (G (Q w)+1) a.1 (ij V) 4 _ (a5.iI ((gJ w1).alloc gH _)) (by simp;omega)).mono ?_;rintro e w2 ⟨rfl,br,y⟩;have fk:G (Q w1)+1<=G (Q w2):=by simpa using y.size
 have A2:=gj (jS y (gP w1 _ A1.o) (by omega));have D2:=gj (jS y bI.o (by omega));have b2:Q8 (G (Q w)) w w2:=⟨y.os.trans gl.os,y.tape.trans gl.tape,y.output.trans gl.output,by omega,fun k hk=>(y.block k (by simp;omega) (fun e=>by cases e;omega)).trans ((heap_alloc_old _ _ (by omega)).trans (gl.block k hk))⟩;obtain⟨b,Z⟩:∃b,b=(a.1.mG (ij V) 4).take 1:=⟨_,rfl⟩;have HB:=gj Z;clear Z;go_wp2_with fail;refine(nb (G (Q w)) (G (Q w)+1) _ 1 _ br (by omega) (by decide) (by decide)).mono ?_;rintro e w3 ⟨vv,rfl,a9,-,am,B⟩;rw[<-HB.o]at a9 am;have fl:=B.size;have A3:=gj (jS B A2.o (by omega));have D3:=gj (jS B D2.o (by omega));have gn:Q8 (G (Q w)) w w3:=⟨B.os.trans b2.os,B.tape.trans b2.tape,B.output.trans b2.output,by omega,fun k hk=>(B.block k (by omega) (fun e=>by cases e;omega)).trans (b2.block k hk)⟩;obtain⟨x,hx⟩:=Kk (show(O b.2)=1 by rw[HB.o,Cu.take_length]);rw[hx]at a9;have HX:=gj hx;clear hx;obtain⟨fn,eT,rfl,ba,bL⟩:=a9.gU;obtain⟨xb,xo,rfl,ag⟩:=bL 0 (by simp);simp only[cL,cG]at ag;have cd:=gK ag;have dn:=x.toNat_lt;simp only[ao,aI]at ba;clear bL a9;obtain⟨C,hC⟩:∃C,C=b.1.mG (decide (1<=x.toNat)&&decide (x.toNat<=8)) 5:=⟨_,rfl⟩;have HC:=gj hC;clear hC;go_upto_region 5 with fail;go_cut [] (fun wx=>jd wx (G (Q w)) (G (Q w)+1) C/\wx.heap[G (Q w)]?=N (Q1 #[I Re 0,Q6 J 0 0] 51 (0,0))/\wx.heap[G (Q w1)]?=N (Q1 #[I Re V,Q6 J 0 0] 51 (0,0))/\Q8 (G (Q w)) w wx)
 case first=>
  have fin:∀(w4:Q0),w3.grownBy w4 (N (G (Q w)+1))->w4.heap[G (Q w)]?=N (Q1 #[I Re 0,Q6 J 0 0] 51 (0,0))/\w4.heap[G (Q w1)]?=N (Q1 #[I Re V,Q6 J 0 0] 51 (0,0))/\Q8 (G (Q w)) w w4:=fun w4 q=>
   ⟨jS q A3.o (by omega),jS q D3.o (by omega),q.os.trans gn.os,q.tape.trans gn.tape,q.output.trans gn.output,by have:=q.size;omega,fun k hk=>(q.block k (by omega) (fun e=>by cases e;omega)).trans (gn.block k hk)⟩
  have bM:=gj fin;clear fin;by_cases h1:x.toNat<1
  .have ds:(x.toNat:Int)<1:=by omega
   have go:gy (C=b.1.mG false 5):=gj (by rw[HC.o,show decide (1<=x.toNat)=false from aF (by omega)];rfl);go_wp2_with fail;refine(kZ (G (Q w)) (G (Q w)+1) b.1 false 5 _ am (by omega)).mono ?_;rintro e w4 ⟨rfl,s,q⟩;rw[<-go.o]at s;have bt:=bM.o w4 q;go_wp2_with fail;go_meet;exact⟨s,bt⟩
  .have ds:(1:Int)<=x.toNat:=by omega
   have go:gy (C=b.1.mG (decide ((x.toNat:Int)<=8)) 5):=gj (by rw[HC.o,show decide (1<=x.toNat)=true from bh (by omega),Bool.true_and,show decide ((x.toNat:Int)<=8)=decide (x.toNat<=8)from by rw[cS,fU,fU];omega]);go_wp2_with fail;refine(kZ (G (Q w)) (G (Q w)+1) b.1 _ 5 _ am (by omega)).mono ?_;rintro e w4 ⟨rfl,s,q⟩;rw[<-go.o]at s;have bt:=bM.o w4 q;go_wp2_with fail;go_meet;exact⟨s,bt⟩
 case rest=>
  obtain⟨s,bN,bb,bO⟩:=hcut;have bc:G (Q w1)<G (Q wc):=gm bb;have a6:gy (tR l=match (kX x.toNat C [] []).1.mT.f with|some f=>.inr f|none=>.inl (V,(kX x.toNat C [] []).2)):=gj (by unfold tR;simp only[<-HA.o,<-HV.o,<-HB.o,HX.o,fh,<-HC.o];generalize kX x.toNat C [] []=L;cases L.1.mT.f<;>rfl);obtain⟨n,hn⟩:∃n,n=x.toNat:=⟨_,rfl⟩;rw[<-hn]at a6 dn;rw[<-hn];obtain⟨D,hD⟩:∃D,D=G (Q w1):=⟨_,rfl⟩;rw[<-hD]at bb bc;rw[<-hD];have dv:G (Q w)+1<D:=by omega
  clear hn hD ag cd am ba HA HB HC HX HV br a5;clear A3 D3 A2 D2 A1 bI R y B gl b2 gn;have dT:=@run_makeMap prog;go_wp2;generalize a1:Ro wc (.map #[] 0)=w5;have r5:kg w5 (G (Q wc)) []:=by rw[<-a1];exact ix.new wc
  have s5:G (Q wc)+1<=G (Q w5):=by rw[<-a1];simp
  have t5:Q8 (G (Q wc)) wc w5:=by rw[<-a1];exact(gJ wc).alloc gH _
  have bP:gy (G (Q w5)=G (Q wc)+1):=gj (by rw[<-a1];simp);clear a1 dT;obtain⟨r,hr⟩:∃r,r=G (Q wc):=⟨_,rfl⟩;have gp:Q8 (G (Q w)) w w5:=bO.trans (t5.mono (by omega));have A5:=gj (gC t5 (by omega) bN)
  have h0:Ap w5 (G (Q w)) (G (Q w)+1) r D n V C (I Y 0) w5:=
   ⟨0,C,[],[],Q6 J 0 0,aJ _,rfl,rfl,rfl,fun _=>rfl,s.iI t5,fun _=>by rw[hr];exact r5,gC t5 bc bb,gS.nil _ _ _,gR.refl _ _⟩
  rw[<-hr]at s5 bP bc;rw[<-hr];clear hr r5 t5 s bN bb bO;go_loopw [8] (fun i wr=>Ap w5 (G (Q w)) (G (Q w)+1) r D n V C i wr) (fun i _=>n-(intOf i).toNat)
  case atStart=>exact h0
  case round=>
   clear h0;obtain⟨k,cu,ks,os,sv,fo,rfl,bR,bS,bv,a2,bX,b0,S,hx⟩:=hrel;obtain⟨u,d,rfl⟩:=S.shape;have fp:=hx.size;have U:Q8 (G (Q w)) w wr:=gp.trans (hx.below (by have:=gp.size;omega) (fun j hj e=>by omega));have AR:=gj (hx.at (fun e=>by omega) A5.o);have ak:=gj b0;have b1:=gj bR;have b3:=gj bS;have d1:Rn wr ⟨D,1,J⟩=N (Q6 u (O os) d):=gr 1 ak.o;have f1:=gD 1 ak.o;have fr:=gm ak.o;clear b0 bR bS;have fx:=a2.lt;by_cases bi:k<n/\cu.f=J
   .obtain⟨m,F⟩:=bi;have e3:(k:Int)<n:=by omega
    have k3:=a2.nt F;obtain⟨cu',o,ho⟩:∃cu' o,cu.op ks=(cu',o):=⟨_,_,rfl⟩;have d5:gy (kX n C [] []=kX (n-(k+1)) cu' (ks++[(o.table,o.key)]) (os++[o])):=gj (by rw[b1.o,show n-k=(n-(k+1))+1 by omega,kX,F,ho]);have d8:=gj (fun W h1 h2 h3 h4=>Ni (G (Q w)) (G (Q w)+1) r cu cu' ks o W h1 h2 h3 ca h4 (by omega) ho);have d9:gZ wr:=HG.o.new U;have b4:=bX F;have av:G (Q w)<=G (Q wr):=U.size;have eb:r<G (Q wr):=b4.lt;have fz:O os<=300:=by have:=b3.o;omega
    have co:=gj bv;clear ho bX bv;go_wp2
    go_region_law
     ((first
       | (refine zW rfl (.tmp 47) (.tmp 51) rfl (r+1) (Q6 u (O os) d) os rfl (by exact bk.below ((gJ w6).alloc gH _)) [o] (by exact GI w6 o) (by simp;omega) (by simp at ec⊢;omega) ?_;intro v7 w7 aE ed eg e7;
           obtain⟨fB,e8,rfl⟩:=aE.shape;have D7:=gj (gC eg (by omega) (gP w6 (Q1 #[I Y o.kind,I Y o.table,Q7 ⟨Rm o.key⟩,Q7 ⟨Rm o.val⟩] 105) D6.o));have d7:Rn w7 ⟨D,1,J⟩=N (Q6 u (O os) d):=gr 1 D7.o;have f7:=gD 1 D7.o;have fR:=gm D7.o)
       | (go_simp;go_at_call 187;refine(d8.o _ (by exact a2) (by exact b4) (by exact d9.new ((gJ wr).drew)) (by exact av)).mono ?_;rintro e w6 ⟨rfl,cr,cs,al⟩;
           have d6:Rn w6 ⟨D,1,J⟩=N (Q6 u (O os) d):=al.cell (w:=wr.drew) (by simp;omega) d1;have D6:=gj (al.at (w:=wr.drew) (fun e=>by rcases e with e|e<;>omega) ak.o);have bk:gS w6 (r+1) 4 (Q6 u (O os) d) (O os) (iP os):=gS.frame (w:=wr.drew) S al.size (fun b hb m=>al.block b m (fun e=>by have:=S.ie b hb;rcases e with e|e<;>omega));have ec:=al.size;have f0:=gm D6.o)))
    all_goals
     go_wp2;go_roundw
     case rel=>
      have gs:(os++[o]).length=O os+1:=by simp
      rw[gs]at aE;exact Ap.step d5.o m b3.o co.o cr cs D6.o bk aE ed hx al dv bc eb bP.o
     case measure=>simp[intOf];omega
   .have bx:(kX n C [] []).1=cu/\(cu.f=J->(kX n C [] []).2=os):=by
     rw[b1.o];by_cases m:k<n
     .cases F:cu.f with
      | none=>exact absurd ⟨m,F⟩ bi
      | some f=>exact⟨xx _ _ _ _ f F,fun h=>by cases h⟩
     .rw[show n-k=0 by omega];exact⟨rfl,fun _=>rfl⟩
    have a7:=gj bx;clear bx;have bE:(¬(k:Int)<n)\/((k:Int)<n/\∃g,Rn wr ⟨G (Q w)+1,3,J⟩=N (Q5 (N ⟨g,0,J⟩))):=by
     by_cases m:k<n
     .cases F:cu.f with
      | none=>exact absurd ⟨m,F⟩ bi
      | some f=>exact .inr ⟨by omega,a2.vG (by rw[F];simp)⟩
     .exact .inl (by omega)
    have HR:=gj ak.o;have av:G (Q w)<=G (Q wr):=U.size;clear bi d1 f1;have ct:=gj (fun W=>Dt (G (Q w)) (G (Q w)+1) cu W);rcases bE with m|⟨m,gg,b5⟩
    all_goals
     go_wp2_with fail;refine(ct.o _ a2 av).mono ?_;rintro e w8 ⟨rfl,a8,E⟩;have ej:=E.size;have A8:=gj (jS E AR.o (by omega));have D8:=gj (jS E ak.o (by omega));have gq:Q8 (G (Q w)) w w8:=⟨E.os.trans U.os,E.tape.trans U.tape,E.output.trans U.output,by omega,fun j hj=>(E.block j (by omega) (fun e=>by cases e;omega)).trans (U.block j hj)⟩;have fb:=a8.lt;have p0:Rn w8 ⟨G (Q w),0,J⟩=N (I Re 0):=gr 0 A8.o;have p1:Rn w8 ⟨G (Q w),1,J⟩=N (Q6 J 0 0):=gr 1 A8.o;have e0:=gD 0 A8.o;have e1:=gD 1 A8.o;have f2:=gm A8.o;cases X:cu.mT.f with
     | some kp=>
      obtain⟨kk,pp⟩:=kp;obtain⟨g,en,cB,b6⟩:=a8.fault X;have HP:gy (tR l=.inr (kk,pp)):=gj (by rw[a6.o,a7.o.1,X]);have b8:=gj b6;clear X b6
      try clear b5
      go_wp2;go_region;have x0:((Rp w8 ⟨G (Q w),0,J⟩ (I Re 0)).setCell ⟨G (Q w),1,J⟩ (Q6 J 0 0)).cell? ⟨G (Q w),0,J⟩=N (I Re 0):=gr 0 (QN _ _ 1 _ (QN _ _ 0 _ A8.o));have x1:((Rp w8 ⟨G (Q w),0,J⟩ (I Re 0)).setCell ⟨G (Q w),1,J⟩ (Q6 J 0 0)).cell? ⟨G (Q w),1,J⟩=N (Q6 J 0 0):=gr 1 (QN _ _ 1 _ (QN _ _ 0 _ A8.o));have a3:g≠G (Q w):=fun e=>by have h1:=b8.o;have h2:=A8.o;rw[e,h2]at h1;simp at h1
      have eo:((Rp w8 ⟨G (Q w),0,J⟩ (I Re 0)).setCell ⟨G (Q w),1,J⟩ (Q6 J 0 0)).heap[g]?=N (Q1 #[I Y kk,I Y pp,.nilIface] 186 (0,0)):=
       (Below.heap_setCell _ ⟨G (Q w),1,J⟩ _ g a3).trans ((Below.heap_setCell w8 ⟨G (Q w),0,J⟩ _ g a3).trans b8.o)
      have Z:Q8 (G (Q w)) w ((Rp w8 ⟨G (Q w),0,J⟩ (I Re 0)).setCell ⟨G (Q w),1,J⟩ (Q6 J 0 0)):=(gq.setCell (p:=⟨G (Q w),0,J⟩) gH _).setCell (p:=⟨G (Q w),1,J⟩) gH _
      all_goals
       go_wp2;refine ai (v:=Rc #[Q9 #[I Re 0,Q6 J 0 0],Rb 171 (Q5 (N ⟨g,0,J⟩))]) (by simp[results,results151,go_sem,x0,x1]) rfl ?_;refine⟨⟨Z.os,Z.tape,Z.output,Z.size,Z.block⟩,?_⟩;rw[HP.o];exact⟨_,rfl,g,rfl,cB,eo⟩
     | none=>
      have er:cu.f=J:=by
       cases F:cu.f with
       | none=>rfl
       | some x=>unfold Cu.mT at X;rw[F]at X;simp only at X;rw[F]at X;cases X
      have HP:gy (tR l=.inl (V,os)):=gj (by rw[a6.o,a7.o.1,X,a7.o.2 er]);have en:=a8.nt X;have q0:Rn w8 ⟨D,0,J⟩=N (I Re V):=gr 0 D8.o;have q1:Rn w8 ⟨D,1,J⟩=N (Q6 u (O os) d):=gr 1 D8.o;have fg:=gm D8.o;have bl:gS w8 (r+1) 4 (Q6 u (O os) d) (O os) (iP os):=S.frame ej (fun b hb m=>E.block b m (fun e=>by cases e;have:=S.ie _ hb;omega));clear X
      try clear b5
      have x0:((Rp w8 ⟨G (Q w),0,J⟩ (I Re V)).setCell ⟨G (Q w),1,J⟩ (Q6 u (O os) d)).cell? ⟨G (Q w),0,J⟩=N (I Re V):=gr 0 (QN _ _ 1 _ (QN _ _ 0 _ A8.o));have x1:((Rp w8 ⟨G (Q w),0,J⟩ (I Re V)).setCell ⟨G (Q w),1,J⟩ (Q6 u (O os) d)).cell? ⟨G (Q w),1,J⟩=N (Q6 u (O os) d):=gr 1 (QN _ _ 1 _ (QN _ _ 0 _ A8.o));have a3:w8.grownBy ((Rp w8 ⟨G (Q w),0,J⟩ (I Re V)).setCell ⟨G (Q w),1,J⟩ (Q6 u (O os) d)) (N (G (Q w))):=jf (jg (gJ w8) 0 _) 1 _;have eD:=(bl.frame a3.size (fun b hb m=>a3.block b m (fun e=>by cases e;have:=bl.ie _ hb;omega))).mono (show(G (Q w))<=r+1 by omega);have Z:Q8 (G (Q w)) w ((Rp w8 ⟨G (Q w),0,J⟩ (I Re V)).setCell ⟨G (Q w),1,J⟩ (Q6 u (O os) d)):=(gq.setCell (p:=⟨G (Q w),0,J⟩) gH _).setCell (p:=⟨G (Q w),1,J⟩) gH _;go_wp2;refine ai (v:=Rc #[Q9 #[I Re V,Q6 u (O os) d],.nilIface]) (by simp[results,results151,go_sem,x0,x1]) rfl ?_;refine⟨Z,?_⟩;rw[HP.o];exact⟨_,rfl,eD⟩
def Cu.ent(c:Cu)(last:K):Cu×Option E:=
 let a:=c.take 1
 let T:Int:=((a.2.headD 0).toNat:Int)
 let c1:=a.1.mG (decide (T<3)) 6
 match c1.f with
 | some _=>(c1,none)
 | none=>
  let b:=c1.take (gL T)
  let c2:=(b.1.mG (js T b.2) 7).mG (decide (sZ last (T,b.2)<0)) 14
  let d:=c2.take (iu T)
  (d.1.mG (jb T d.2) 9,N ((T,b.2),d.2))
def km:Nat->Cu->K->List E->Cu×List E
 | 0,c,_,S=>(c,S)
 | n+1,c,last,S=>
  match c.f with
  | some _=>(c,S)
  | none=>
   match c.ent last with
   | (c',none)=>(c',S)
   | (c',some x)=>km n c' x.1 (nf x.1 x.2 S)
def kJ(l:gw):(Nat×List E)⊕(Nat×Nat):=
 let a:=Cu.take ⟨l,0,0,J⟩ 8
 let b:=(a.1.mG (ij (j6 a.2)) 4).take 2
 let L:=km ((b.2.getD 0 0).toNat*256+(b.2.getD 1 0).toNat) b.1 (-1,[]) []
 match L.1.mT.f with
 | some f=>.inr f
 | none=>.inl (j6 a.2,L.2)
theorem wU{c:Cu}{ok:Bool}(h:(c.mG ok k).f=J):c.f=J/\ok=true:=by
 obtain⟨l,a,t,f⟩:=c;cases f with
 | some f=>simp[Cu.mG]at h
 | none=>cases ok<;>simp[Cu.mG]at h⊢
theorem NS{c:Cu}(h:(c.take n).1.f=J):c.f=J:=by
 obtain⟨l,a,t,f⟩:=c;cases f with
 | some f=>simp[Cu.take]at h
 | none=>rfl
theorem vY{c:Cu}{last:K}{S:List E}(h:c.f=N f):(km n c last S).1=c:=by
 cases n with
 | zero=>rfl
 | succ n=>unfold km;rw[h]
theorem tH{c:Cu}{last:K}{S:List E}(b:c.f=J)(h:c.ent last=(c',N x)):km (n+1) c last S=km n c' x.1 (nf x.1 x.2 S):=by
 conv=>lhs;unfold km
 rw[b,h]
theorem vX{c:Cu}{last:K}{S:List E}(b:c.f=J)(h:c.ent last=(c',J)):km (n+1) c last S=(c',S):=by
 conv=>lhs;unfold km
 rw[b,h]
theorem KY{c:Cu}{last:K}(b:(c.take 1).2=[t])(d:((c.take 1).1.mG (decide ((t.toNat:Int)<3)) 6).f=N f):c.ent last=((c.take 1).1.mG (decide ((t.toNat:Int)<3)) 6,J):=by unfold Cu.ent;simp only[b,fh,d]
theorem PC{c c1:Cu}{last:K}(i:(c.take 1).2=[t])(h1:c1=(c.take 1).1.mG (decide ((t.toNat:Int)<3)) 6)(j:c1.f=J){T:Int}(l:T=t.toNat){b d:Cu×gw}{c2:Cu}(m:b=c1.take (gL T))(o:c2=(b.1.mG (js T b.2) 7).mG (decide (sZ last (T,b.2)<0)) 14)(q:d=c2.take (iu T)):
  c.ent last=(d.1.mG (jb T d.2) 9,N ((T,b.2),d.2)):=by
 subst q o m l;unfold Cu.ent;simp only[i,fh,<-h1,j]
theorem JA(h:gZ w)(t:UInt8)(b:t.toNat<3):Rn w ⟨1,t.toNat*2,J⟩=N (I Y (gL (t.toNat:Int))):=by
 have:t.toNat=0\/t.toNat=1\/t.toNat=2:=by omega
 rcases this with e|e|e<;>rw[e]
 .exact h.c0
 .exact h.c2
 .exact h.c4
theorem BY(h:gZ w)(t:UInt8)(b:t.toNat<3):Rn w ⟨1,t.toNat*2+1,J⟩=N (I Y (iu (t.toNat:Int))):=by
 have:t.toNat=0\/t.toNat=1\/t.toNat=2:=by omega
 rcases this with e|e|e<;>rw[e]
 .exact h.c1
 .exact h.c3
 .exact h.c5
theorem IK(w:Q0)(q:Nat)(os:Array Obj):Q8 (G (Q w)) w (Sort.grow (w.drewN q) os):=by
 refine⟨rfl,rfl,rfl,?_,fun k hk=>?_⟩
 .show(G (Q w))<=(w.heap++os).size;rw[Array.size_append];omega
 .show(w.heap++os)[k]?=_;exact fu hk
theorem yH(T:Int):gL T<=100:=by unfold gL;split<;>(try split)<;>omega
theorem IU(T:Int):1<=gL T:=by unfold gL;split<;>(try split)<;>omega
theorem yU(T:Int):iu T<=100:=by unfold iu;split<;>(try split)<;>omega
theorem JL(T:Int):1<=iu T:=by unfold iu;split<;>(try split)<;>omega
structure oL(w5:Q0)(base c r Bl:Nat)(cu:Cu)(last:K)(S:List E)(W:Q0):Prop where
 cur:jd W base c cu
 jh:iE W r S
 cell:Rn W ⟨r+1,0,J⟩=N (.map (N r))
 box:W.heap[Bl]?=N (Q1 #[I Y last.1,Q7 ⟨Rm last.2⟩] 103 (0,0))
 shp:gZ W
 ext:gR (fun i=>i=c\/i=r\/i=Bl) w5 W
 geo:2<=base/\base<=c/\c<r/\r+1<Bl/\Bl<G (Q w5)
section
variable {w5 W W':Q0} {base c r Bl:Nat} {cu cu':Cu} {last:K} {S S':List E}
theorem oL.size(h:oL w5 base c r Bl cu last S W):G (Q w5)<=G (Q W):=h.ext.size
theorem oL.FW(h:oL w5 base c r Bl cu last S W)(b:W.grownBy W' (N c))(hc:jd W' base c cu'):oL w5 base c r Bl cu' last S W':=by
 obtain⟨g1,g2,d,g4,g5⟩:=h.geo;have i:=h.size
 exact⟨hc,h.jh.iI (b.block r h.jh.lt (fun e=>by cases e;omega)),(aS (a:=⟨r+1,0,J⟩) (b.block (r+1) (by omega) (fun e=>by cases e;omega))).trans h.cell,
  (b.block Bl (by omega) (fun e=>by cases e;omega)).trans h.box,h.shp.grown b (by omega),h.ext.grow b (.inl (.inl rfl)),h.geo⟩
theorem oL.rU(h:oL w5 base c r Bl cu last S W)(b:Q8 (G (Q W)) W W'):oL w5 base c r Bl cu last S W':=by obtain⟨g1,g2,d,g4,g5⟩:=h.geo;have i:=h.size;exact⟨h.cur.iI b,h.jh.iI (b.block r h.jh.lt),(b.cell (p:=⟨r+1,0,J⟩) (show r+1<_ by omega)).trans h.cell,(b.block Bl (by omega)).trans h.box,h.shp.new b,h.ext.EU b,h.geo⟩
theorem oL.put(h:oL w5 base c r Bl cu last S W)(b:W.grownBy W' (N r))(d:iE W' r S'):oL w5 base c r Bl cu last S' W':=by
 obtain⟨g1,g2,i,g4,g5⟩:=h.geo;have j:=h.size
 refine⟨h.cur.grown b i ?_,d,(aS (a:=⟨r+1,0,J⟩) (b.block (r+1) (by omega) (fun e=>by simp at e))).trans h.cell,
  (b.block Bl (by omega) (fun e=>by cases e;omega)).trans h.box,h.shp.grown b (by omega),h.ext.grow b (.inl (.inr (.inl rfl))),h.geo⟩
 obtain⟨-,L,hm,-⟩:=h.jh;exact hm.nt
theorem oL.step(h:oL w5 base c r Bl cu last S W)(k:K):oL w5 base c r Bl cu k S ((Rp W ⟨Bl,0,J⟩ (I Y k.1)).setCell ⟨Bl,1,J⟩ (Q7 ⟨Rm k.2⟩)):=by
 obtain⟨g1,g2,d,g4,g5⟩:=h.geo;have i:=h.size;have b:W.grownBy ((Rp W ⟨Bl,0,J⟩ (I Y k.1)).setCell ⟨Bl,1,J⟩ (Q7 ⟨Rm k.2⟩)) (N Bl):=jf (jg (gJ W) 0 _) 1 _
 exact⟨h.cur.grown b (by omega) (fun j m e=>by rw[h.box]at e;simp at e),h.jh.iI (b.block r h.jh.lt (fun e=>by cases e;omega)),(aS (a:=⟨r+1,0,J⟩) (b.block (r+1) (by omega) (fun e=>by cases e;omega))).trans h.cell,
  QN _ _ 1 _ (QN _ _ 0 _ h.box),h.shp.grown b (by omega),h.ext.grow b (.inl (.inr (.inr rfl))),h.geo⟩
theorem oL.QC(h:oL w5 base c r Bl cu last S W){C:Array Q4}{T:TypeId}{d:Nat×Nat}(i:W.heap[B]?=N (Q1 C T d))(hl:Bl<B)(j:T≠186)(b:W.grownBy W' (N B))(l:G (Q w5)<=B):oL w5 base c r Bl cu last S W':=by
 obtain⟨g1,g2,o,g4,g5⟩:=h.geo;have q:=h.size
 exact⟨h.cur.grown b (by omega) (fun s m e=>by rw[i]at e;injection e with e;injection e with _ e _;exact j e),h.jh.iI (b.block r h.jh.lt (fun e=>by cases e;omega)),(aS (a:=⟨r+1,0,J⟩) (b.block (r+1) (by omega) (fun e=>by cases e;omega))).trans h.cell,
  (b.block Bl (by omega) (fun e=>by cases e;omega)).trans h.box,h.shp.grown b (by omega),h.ext.grow b (.inr l),h.geo⟩
theorem oL.boxes(_h:oL w5 base c r Bl cu last S W){o:Obj}(b:W.heap[B]?=N o)(hc:c<B)(d:W.grownBy W' (N c)):W'.heap[B]?=N o:=
 (d.block B (gm b) (fun e=>by cases e;omega)).trans b
end
def El(last:Option K)(k:K):Bool:=match last with
 | none=>true
 | some b=>oT b k
def jQ(s:gw)(at':Nat)(last:Option K):(E×Nat)⊕(Nat×Nat):=
 match s.drop at' with
 | []=>.inr (1,at')
 | t::r=>
  if 2<t.toNat then .inr (6,at')
  else if(O r)<gL t.toNat then .inr (1,at'+1)
  else if js t.toNat (r.take (gL t.toNat))=false then .inr (7,at'+1)
  else if(El last ((t.toNat:Int),r.take (gL t.toNat)))=false then .inr (14,at'+1)
  else if(O r)<gL t.toNat+iu t.toNat then .inr (1,at'+1+gL t.toNat)
  else if jb t.toNat ((r.drop (gL t.toNat)).take (iu t.toNat))=false then .inr (9,at'+1+gL t.toNat)
  else .inl ((((t.toNat:Int),r.take (gL t.toNat)),(r.drop (gL t.toNat)).take (iu t.toNat)),at'+1+gL t.toNat+iu t.toNat)
theorem IV(T:Int):gL T<=6:=by unfold gL;split<;>(try split)<;>omega
theorem Hm(T:Int):iu T<=4:=by unfold iu;split<;>(try split)<;>omega
theorem Ke(s:gw)(a n:Nat):(⟨Rm s⟩:ByteArray).extract a (a+n)=⟨((s.drop a).take n).toArray⟩:=by rw[ByteArray.extract_mk];congr 1;simp
theorem QU{x:UInt8}{r:gw}(h:l.drop q=x::r):l.drop (q+1)=r/\O l=q+1+O r/\l[q]?=N x:=by
 have h1:(l.drop q).drop 1=r:=by rw[h];rfl
 rw[db]at h1;have b:=bm List.length h;rw[bu,ao]at b;refine⟨h1,by omega,?_⟩;have d:(l.drop q)[0]?=N x:=by rw[h];rfl
 rwa [dP,cL]at d
def jN(s:gw):Nat->Nat->List E->(Nat×List E)⊕(Nat×Nat)
 | 0,at',l=>.inl (at',l)
 | n+1,at',l=>
  match jQ s at' (l.getLast?.map (·.1)) with
  | .inr f=>.inr f
  | .inl (x,q)=>jN s n q (l++[x])
def jC(s:gw):(Nat×List E)⊕(Nat×Nat):=
 if(O s)<8 then .inr (1,0)
 else if ij (j6 (s.take 8))=false then .inr (4,0)
 else if(O s)<10 then .inr (1,8)
 else match jN s ((s.getD 8 0).toNat*256+(s.getD 9 0).toNat) 10 [] with
  | .inr f=>.inr f
  | .inl (q,l)=>if q<O s then .inr (2,q)else .inl (j6 (s.take 8),l)
theorem OR{S:List E}{k:K}{v:gw}(h:∀x∈S,oT x.1 k=true):nf k v S=S++[(k,v)]:=by unfold nf;rw[fH.2 h,fa.2 (fun x b=>by rw[mY (h x b)];decide)]
theorem rH{last:Option K}(h:jQ s at' last=.inl (x,q)):at'<q/\q<=O s/\0<=x.1.1/\x.1.1<3/\js x.1.1 x.1.2=true/\jb x.1.1 x.2=true/\(∀k,last=N k->oT k x.1=true):=by
 unfold jQ at h;split at h
 .cases h
 .rename_i t r b;have hl:=(QU b).2.1
  have key:∀c:Bool,(∀k,last=N k->c=oT k ((t.toNat:Int),r.take (gL (t.toNat:Int))))->(if 2<t.toNat then Sum.inr (6,at')
   else if(O r)<gL (t.toNat:Int)then .inr (1,at'+1)
   else if js (t.toNat:Int) (r.take (gL (t.toNat:Int)))=false then .inr (7,at'+1)
   else if c=false then .inr (14,at'+1)
   else if(O r)<gL (t.toNat:Int)+iu (t.toNat:Int)then .inr (1,at'+1+gL (t.toNat:Int))
   else if jb (t.toNat:Int) ((r.drop (gL (t.toNat:Int))).take (iu (t.toNat:Int)))=false then .inr (9,at'+1+gL (t.toNat:Int))
   else .inl ((((t.toNat:Int),r.take (gL (t.toNat:Int))),(r.drop (gL (t.toNat:Int))).take (iu (t.toNat:Int))),at'+1+gL (t.toNat:Int)+iu (t.toNat:Int)))=(.inl (x,q):(E×Nat)⊕(Nat×Nat))->
   at'<q/\q<=O s/\0<=x.1.1/\x.1.1<3/\js x.1.1 x.1.2=true/\jb x.1.1 x.2=true/\(∀k,last=N k->oT k x.1=true):=by
   intro c hc h;split at h
   .cases h
   split at h
   .cases h
   split at h
   .cases h
   split at h
   .cases h
   split at h
   .cases h
   split at h
   .cases h
   rename_i h1 m d i o j;obtain⟨l,hq⟩:=Prod.mk.inj (Sum.inl.inj h);subst l hq;exact⟨by omega,by omega,by simp,by simp only[];omega,by simpa using d,by simpa using j,fun k hk=>by rw[<-hc k hk];simpa using i⟩
  cases last with
  | none=>exact key true (fun k hk=>by(cases hk)) h
  | some u=>exact key _ (fun k hk=>by(cases hk;rfl)) h
theorem AW{last:Option K}(h:jQ s at' last=.inr (k,p))(ha:at'<=O s):1<=k/\k<=14/\p<=O s:=by
 unfold jQ at h;split at h
 .obtain⟨rfl,rfl⟩:=Prod.mk.inj (Sum.inr.inj h);omega
 .rename_i t r b;have hl:=(QU b).2.1;split at h
  .obtain⟨rfl,rfl⟩:=Prod.mk.inj (Sum.inr.inj h);omega
  split at h
  .obtain⟨rfl,rfl⟩:=Prod.mk.inj (Sum.inr.inj h);omega
  split at h
  .obtain⟨rfl,rfl⟩:=Prod.mk.inj (Sum.inr.inj h);omega
  split at h
  .obtain⟨rfl,rfl⟩:=Prod.mk.inj (Sum.inr.inj h);omega
  split at h
  .obtain⟨rfl,rfl⟩:=Prod.mk.inj (Sum.inr.inj h);omega
  split at h
  .obtain⟨rfl,rfl⟩:=Prod.mk.inj (Sum.inr.inj h);omega
  cases h
theorem FP(a b:K):decide (sZ a b<0)=oT a b:=by
 unfold sZ oT tP uM;rcases dY a.1 b.1 with h|h|h
 .simp[h]
 .have h1:¬a.1<b.1:=by omega
  have d:¬b.1<a.1:=by omega
  simp only[h];simp;by_cases i:a.2<b.2
  .simp[i]
  .simp only[i,dA,iff_false];split<;>decide
 .have h1:¬a.1<b.1:=by omega
  have d:¬a.1=b.1:=by omega
  simp[h,h1,d]
def O9(o:Option K)(last:K):Prop:=(o=J/\last=(-1,[]))\/o=N last
theorem MU(T:Nat)(k:gw):decide (sZ (-1,[]) ((T:Int),k)<0)=true:=by rw[FP];simp[oT];omega
theorem Cu.Du(l:gw)(a q:Nat)(last:K)(t:UInt8)(r:gw)(c:Bool)(h:l.drop q=t::r)(hc:decide (sZ last ((t.toNat:Int),r.take (gL (t.toNat:Int)))<0)=c):
  match (if 2<t.toNat then Sum.inr (6,q)
   else if(O r)<gL (t.toNat:Int)then .inr (1,q+1)
   else if js (t.toNat:Int) (r.take (gL (t.toNat:Int)))=false then .inr (7,q+1)
   else if c=false then .inr (14,q+1)
   else if(O r)<gL (t.toNat:Int)+iu (t.toNat:Int)then .inr (1,q+1+gL (t.toNat:Int))
   else if jb (t.toNat:Int) ((r.drop (gL (t.toNat:Int))).take (iu (t.toNat:Int)))=false then .inr (9,q+1+gL (t.toNat:Int))
   else .inl ((((t.toNat:Int),r.take (gL (t.toNat:Int))),(r.drop (gL (t.toNat:Int))).take (iu (t.toNat:Int))),q+1+gL (t.toNat:Int)+iu (t.toNat:Int)):(E×Nat)⊕(Nat×Nat)) with
  | .inr f=>((⟨l,a,q,none⟩:Cu).ent last).1.f=N f
  | .inl (x,j)=>∃a',(⟨l,a,q,none⟩:Cu).ent last=(⟨l,a',j,none⟩,some x)/\j<=O l:=by
 obtain⟨m,hl,-⟩:=QU h;have B:¬(O l)<q+1:=by omega
 simp only[Cu.ent,Cu.jV,B,dA,h,aN,bp,fh];by_cases o:2<t.toNat
 .have i:¬(t.toNat:Int)<3:=by omega
  rw[aw o];simp[Cu.lV,i]
 .have i:(t.toNat:Int)<3:=by omega
  rw[af o];simp only[Cu.lV,i,decide_true,dX,Cu.jV,hl];by_cases s:O r<gL (t.toNat:Int)
  .have b:q+1+O r<q+1+gL (t.toNat:Int):=by omega
   simp only[s,b,dX,Cu.lp,Cu.nc]
  .have b:¬q+1+O r<q+1+gL (t.toNat:Int):=by omega
   simp only[s,b,dA,m,Cu.lV];cases hk:js (t.toNat:Int) (r.take (gL (t.toNat:Int))) with
   | false=>simp[Cu.lp,Cu.nc]
   | true=>
    simp only[ey,dA,dX,Cu.lV,hc];cases c with
    | false=>simp[Cu.lp,Cu.nc]
    | true=>
     simp only[ey,dA,dX,Cu.jV,hl];have u:l.drop (q+1+gL (t.toNat:Int))=r.drop (gL (t.toNat:Int)):=by rw[<-m,db]
     by_cases y:O r<gL (t.toNat:Int)+iu (t.toNat:Int)
     .have d:q+1+O r<q+1+gL (t.toNat:Int)+iu (t.toNat:Int):=by omega
      simp only[y,d,dX,Cu.lp]
     .have d:¬q+1+O r<q+1+gL (t.toNat:Int)+iu (t.toNat:Int):=by omega
      simp only[y,d,dA,u,Cu.lV];cases C:jb (t.toNat:Int) ((r.drop (gL (t.toNat:Int))).take (iu (t.toNat:Int))) with
      | false=>simp
      | true=>simp only[ey,dA,dX];exact⟨_,rfl,by omega⟩
theorem Cu.KZ(l:gw)(a q:Nat)(o:Option K)(last:K)(d:O9 o last):
  match jQ l q o with
  | .inr f=>((⟨l,a,q,none⟩:Cu).ent last).1.f=N f
  | .inl (x,b)=>∃a',(⟨l,a,q,none⟩:Cu).ent last=(⟨l,a',b,none⟩,some x)/\b<=O l:=by
 rcases d with ⟨rfl,rfl⟩|rfl
 all_goals
  unfold jQ;cases h:l.drop q with
  | nil=>
   have:O l<q+1:=by have:=bm List.length h;simp at this;omega
   simp[Cu.ent,Cu.jV,this,List.replicate,Cu.lp]
  | cons t r=>?_
 .exact Cu.Du l a q (-1,[]) t r true h (MU _ _)
 .exact Cu.Du l a q last t r _ h (FP _ _)
theorem qQ(l:gw):∀(n a q:Nat) (last:K) (es:List E),q<=O l->gM es->O9 (es.getLast?.map (·.1)) last->
  match jN l n q es with
  | .inr f=>(km n ⟨l,a,q,none⟩ last es).1.f=N f
  | .inl (m,r)=>∃a',km n ⟨l,a,q,none⟩ last es=(⟨l,a',m,none⟩,r)/\m<=O l/\gM r
 | 0,a,q,last,es,h,d,B=>⟨a,rfl,h,d⟩
 | n+1,a,q,last,es,h,d,B=>by
  have hc:=Cu.KZ l a q _ last B;unfold jN;cases he:jQ l q (es.getLast?.map (·.1)) with
  | inr f=>
   rw[he]at hc;simp only at hc⊢;cases i:(⟨l,a,q,J⟩:Cu).ent last with
   | mk c' o=>
    rw[i]at hc;cases o with
    | none=>rw[vX rfl i];exact hc
    | some x=>rw[tH rfl i,vY hc];exact hc
  | inl F=>
   obtain⟨x,m⟩:=F;rw[he]at hc;obtain⟨a',i,C⟩:=hc;simp only;have s:=(rH he).2.2.2.2.2.2;have u:∀y∈es,oT y.1 x.1=true:=by
    intro y b;rcases List.eq_nil_or_concat es with rfl|⟨M,z,rfl⟩
    .cases b
    .simp only[List.concat_eq_append]at d b s;have D:=s z.1 (by simp);rcases bQ.1 b with b|b
     .exact qf ((dR.1 d).2.2 y b z (by simp)) D
     .rw[ay.1 b];exact D
   have j:nf x.1 x.2 es=es++[x]:=OR u;have ih:=qQ l n a' m x.1 (es++[x]) C (by rw[<-j];exact kG _ _ d) (.inr (by simp));rw[tH rfl i,j];exact ih
theorem tU  : ∀{n q d:Nat} {es b:List E},jN s n q es=.inl (d,b)->O b=O es+n
 | 0,q,d,es,b,h=>by obtain⟨rfl,rfl⟩:=Prod.mk.inj (Sum.inl.inj h);rfl
 | n+1,q,d,es,b,h=>by
  unfold jN at h;cases he:jQ s q (es.getLast?.map (·.1)) with
  | inr f=>rw[he]at h;cases h
  | inl i=>obtain⟨x,j⟩:=i;rw[he]at h;have:=tU h;simp at this;omega
theorem xC  : ∀{n q:Nat} {es:List E} {k p:Nat},q<=O s->jN s n q es=.inr (k,p)->1<=k/\k<=14/\p<=O s
 | 0,q,es,k,p,_,h=>by cases h
 | n+1,q,es,k,p,hq,h=>by
  unfold jN at h;cases he:jQ s q (es.getLast?.map (·.1)) with
  | inr f=>rw[he]at h;cases h;exact AW he hq
  | inl b=>obtain⟨x,d⟩:=b;rw[he]at h;exact xC (rH he).2.1 h
theorem qC(l:gw):kJ l=jC l:=by
 unfold kJ jC;by_cases j:O l<8
 .have m:O l<0+8:=by omega
  simp[Cu.jV,j,Cu.lp,Cu.nc,List.replicate,km,Cu.mT]
 .have m:¬(O l)<0+8:=by omega
  simp only[Cu.jV,j,dA,bC,bY,Cu.lV];cases u:ij (j6 (l.take 8)) with
  | false=>simp[Cu.nc,List.replicate,km,Cu.mT]
  | true=>
   simp only[dX,ey,dA,Cu.jV];by_cases b:O l<10
   .have i:O l<8+2:=b;simp[b,List.replicate,km,Cu.mT]
   .have i:¬(O l)<8+2:=b;have e0:((l.drop 8).take 2).getD 0 0=l.getD 8 0:=by simp[]
    have o:((l.drop 8).take 2).getD 1 0=l.getD 9 0:=by simp[]
    simp only[b,dA,e0,o];have d:=qQ l ((l.getD 8 0).toNat*256+(l.getD 9 0).toNat) 8 10 (-1,[]) [] (by omega) gM.nil (.inl ⟨rfl,rfl⟩);cases hc:jN l ((l.getD 8 0).toNat*256+(l.getD 9 0).toNat) 10 [] with
    | inr f=>rw[hc]at d;simp only at d⊢;generalize km ((l.getD 8 0).toNat*256+(l.getD 9 0).toNat) ⟨l,8,10,J⟩ (-1,[]) []=L at d⊢;simp[Cu.mT,d]
    | inl x=>
     obtain⟨q,r⟩:=x;rw[hc]at d;obtain⟨a',he,s,-⟩:=d;simp only[he,Cu.mT];by_cases hq:q<O l
     .simp[hq]
     .simp[hq]
theorem sd{S:List E}(h:kJ l=.inl (n,S)):O S<=65535/\gM S:=by
 rw[qC]at h;unfold jC at h;split at h
 .cases h
 split at h
 .cases h
 split at h
 .cases h
 rename_i h1 m o;have d:=qQ l ((l.getD 8 0).toNat*256+(l.getD 9 0).toNat) 8 10 (-1,[]) [] (by omega) gM.nil (.inl ⟨rfl,rfl⟩);cases hc:jN l ((l.getD 8 0).toNat*256+(l.getD 9 0).toNat) 10 [] with
 | inr f=>rw[hc]at h;cases h
 | inl x=>
  obtain⟨q,j⟩:=x;rw[hc]at d h;obtain⟨-,-,-,i⟩:=d;simp only at h;split at h
  .cases h
  .obtain⟨-,rfl⟩:=Prod.mk.inj (Sum.inl.inj h);have:=tU hc;have a:=(l.getD 8 0).toNat_lt;have b:=(l.getD 9 0).toNat_lt;rw[aI]at this;have a':(l.getD 8 0).toNat<256:=a;have r:(l.getD 9 0).toNat<256:=b;exact⟨by omega,i⟩
theorem zf(h:kJ l=.inr (k,p)):1<=k/\k<=14/\p<=O l:=by
 rw[qC]at h;unfold jC at h;split at h
 .cases h;omega
 split at h
 .cases h;omega
 split at h
 .cases h;omega
 rename_i h1 d i;cases hc:jN l ((l.getD 8 0).toNat*256+(l.getD 9 0).toNat) 10 [] with
 | inr f=>rw[hc]at h;cases h;exact xC (by omega) hc
 | inl x=>
  obtain⟨j,b⟩:=x;rw[hc]at h;simp only at h;split at h
  .cases h;omega
  .cases h
structure iy where
 V:Nat
 T:List E
 out:List gw
 l4:Option (Nat×Nat)
 me:Option (Nat×Nat×List gw)
inductive iV where
 | delta (v:Nat) (os:List kv)
 | nG (v:Nat) (T:List E)
def iy.put(a:iy)(k:UInt8)(body:gw):iy:=if(O a.out)<6 then {a with out:=a.out++[vh k body]}else a
def iy.ki(a:iy):iy:=a.put 16 (nC a.V)
def iy.oO(a:iy):iy:=a.put 17 (nC a.V)
def iy.jM(a:iy)(k:Nat):iy:=a.put 18 [UInt8.ofNat k]
def iy.Gi(a:iy):Nat:=match a.me with
 | some (_,_,got)=>O got
 | none=>0
def iy.lX(a:iy):iy:=a.put 19 [UInt8.ofNat a.Gi]
def iy.pW(a:iy)(k:Nat):iy:=(a.jM k).ki
def iy.jZ(a:iy)(f:Nat×Nat):iy:={a with l4:=N f}.jM f.1
def iy.next(a:iy):iy×Option gw:=match a.out with
 | []=>(a,none)
 | s::l=>({a with out:=l},some s)
def lE(v:Nat)(T:List E):iy:=iy.ki ⟨v,T,[],J,J⟩
def iy.delta(a:iy)(body:gw):iy×Option iV:=match tR body with
 | .inr f=>(a.pW f.1,none)
 | .inl (v,os)=>if v<=a.V then(a.oO,none)else if a.V+1<v then(a.ki,none)else(a,some (.delta v os))
def iy.mW(a:iy)(body:gw):iy:=
 if(O body)<9 then a.pW 1 else if 9<O body then a.pW 2
 else if ij (j6 (body.take 8))=false then a.pW 4
 else if(body.getD 8 0).toNat<1\/16<(body.getD 8 0).toNat then a.pW 5
 else if j6 (body.take 8)<=a.V then a.oO
 else {a with me:=N (j6 (body.take 8),(body.getD 8 0).toNat,[])}.lX
def iy.mV(a:iy)(tv:Nat)(bytes:gw):iy×Option iV:=match kJ bytes with
 | .inr f=>(a.pW f.1,none)
 | .inl (v,T)=>if v≠tv then(a.pW 4,none)else if v<=a.V then(a.oO,none)else(a,some (.nG v T))
def iy.piece(a:iy)(body:gw):iy×Option iV:=
 if(O body)<2 then(a.pW 1,J)else if 65<O body then(a.pW 2,J)
 else match a.me with
 | none=>(a.ki,none)
 | some (tv,of,got)=>
  if(body.getD 0 0).toNat≠O got then(a.lX,J)
  else if(O got)+1<of then({a with me:=N (tv,of,got++[body.drop 1])}.lX,J)
  else {a with me:=J}.mV tv (got++[body.drop 1]).flatten
def iy.taken(a:iy)(frame:gw):iy×Option iV:=
 if a.l4.isSome then(a.jM 13,J)else match lQ frame with
 | .inr f=>(a.pW f.1,none)
 | .inl (k,body)=>
  if k=1 then a.delta body
  else if k=2 then(if body=[]then a.ki else a.pW 2,J)
  else if k=3 then(a.mW body,J)
  else if k=4 then a.piece body
  else(a.pW 6,J)
def pT(S:List E)(room:Nat->Int):Option Nat:=
 if room 0<iq 0 S then N 0 else if room 1<iq 1 S then N 1 else if room 2<iq 2 S then N 2 else J
def iV.V:iV->Nat
 | .delta v _=>v
 | .nG v _=>v
def iV.T(tk:iV)(S:List E):List E:=match tk with
 | .delta _ os=>iO S os
 | .nG _ T=>T
def jG(S:List E)(room:Nat->Int)(n:Nat):Option (Nat×Nat):=match pT S room with
 | some t=>N (10,t)
 | none=>if 16*(n-8)<jw S then N (11,0)else J
def iy.jO(a:iy)(tk:iV)(room:Nat->Int)(n:Nat):iy:=match jG (tk.T a.T) room n with
 | some f=>a.jZ f
 | none=>{a with V:=tk.V,T:=tk.T a.T}.oO
def iy.done(a:iy)(tk:iV)(room:Nat->Int)(n:Nat):List gw:=match jG (tk.T a.T) room n with
 | some _=>[]
 | none=>(lU a.T (tk.T a.T)).map um
structure iy.mN(a:iy):Prop where
 v:a.V<18446744073709551615
 out:O a.out<=6
 olen:∀s∈a.out,O s<=13
 me:∀tv of got,a.me=N (tv,of,got)->O got<of/\of<=16/\tv<18446744073709551616/\∀s∈got,O s<=64
structure jP where
 gF:Nat
 iC:Nat
 next:Nat
variable{g:jP}
def gT(H:gA)(g:jP)(at':Nat)(data:gw):gA×Option Nat:=match jc (iH (g.gF+1) data) H at' with
 | (H1,some f)=>(H1,some f)
 | (H1,none)=>H1.jY
def IS(g:jP)(n:Nat):gA×Option Nat->gA×jP×Option Nat
 | (H1,some f)=>(H1,{g with gF:=g.gF+1},some f)
 | (H1,none)=>(H1,⟨g.gF+1,1-g.iC,2*ik n⟩,none)
def iz(H:gA)(g:jP)(v:Nat)(T:List E):gA×jP×Option Nat:=IS g (O H.gG) (gT H g ((1-g.iC)*ik (O H.gG)) (kh v T))
def uW(g:jP)(b:gw):gA×Option Nat->gA×jP×Option Nat
 | (H1,some f)=>(H1,{g with gF:=g.gF+1},some f)
 | (H1,none)=>(H1,{g with gF:=g.gF+1,next:=g.next+iw (O b)},none)
def jk(H:gA)(g:jP)(b:gw):gA×jP×Option Nat:=uW g b (gT H g g.next b)
def Ns(b:gw):gA×jP×Option Nat->gA×jP×Option Nat
 | (H1,g1,some f)=>(H1,g1,some f)
 | (H1,g1,none)=>jk H1 g1 b
def jH(H:gA)(g:jP)(b:gw)(v:Nat)(T:List E):gA×jP×Option Nat:=
 if(O H.gG)<g.next+iw (O b)then Ns b (iz H g v T)else jk H g b
def ja(H:gA):gA×Option Nat:=
 if 0<=H.fail/\H.fail<O H.gG then({H with fail:=-1},N (H.fail.toNat+2))
 else({H with fail:=if H.fail<0 then H.fail else H.fail-(O H.gG)},J)
def jn(gG:List gw):Nat:=gG.foldl (fun m b=>max m (gN b).gF) 0
def ni(l:gw):Option (Nat×List E):=match kJ l with
 | .inl r=>N r
 | .inr _=>J
def og(l:gw):Option (Nat×List kv):=match tR l with
 | .inl r=>N r
 | .inr _=>J
def GM(gG:List gw):jP×Nat×List E:=
 let d:=gG.map gN
 let p:=ik (O d)
 let b:=yQ ni d p []
 let c:=n9 iO (DO og d (kH d p)) (O d+1) b.1 b.2.2.1 b.2.2.2 (2*p)
 (⟨jn gG,b.2.1,c.2.2⟩,c.1,c.2.1)
structure iM where
 a:iy
 nQ:Nat
 lg:jP
def iV.iF(tk:iV)(H:gA)(P:iM):gA×jP×Option Nat:=match tk with
 | .delta v os=>jH H P.lg (tS v os) P.a.V P.a.T
 | .nG v T=>iz H P.lg v T
def gA.qV(H:gA)(T:List E):gA:={H with dp:=H.dp.run (lU H.dp.S T)}
def An(P:iM)(tk:iV):gA×jP×Option Nat->gA×iM
 | (H1,g1,some f)=>(H1,⟨P.a.jZ (12,0),f,g1⟩)
 | (H1,g1,none)=>(H1.qV (tk.T P.a.T),⟨{P.a with V:=tk.V,T:=tk.T P.a.T}.oO,P.nQ,g1⟩)
def nz(H:gA)(P:iM)(tk:iV):gA×iM:=match jG (tk.T P.a.T) H.dp.room (O H.gG) with
 | some f=>(H,{P with a:=P.a.jZ f,nQ:=0})
 | none=>An P tk (tk.iF H P)
def mn(H:gA)(P:iM)(frame:gw):gA×iM:=match P.a.taken frame with
 | (a1,none)=>(H,{P with a:=a1})
 | (a1,some tk)=>nz H {P with a:=a1} tk
def j7(H:gA):gA×(iM⊕(Nat×Nat×Nat)):=match ja H with
 | (H1,some f)=>(H1,.inr (12,0,f))
 | (H1,none)=>
  let o:=GM H.gG
  match pT o.2.2 H.dp.room with
  | some t=>(H1,.inr (10,t,0))
  | none=>(H1.qV o.2.2,.inl ⟨lE o.2.1 o.2.2,0,o.1⟩)
def uj(b:Int)(i:Nat):Bool:=decide (b / 2^(i%60)%2=1)
def gA.mo(H:gA)(b d fail:Int):gA:=
 {held:=ig (uj b) 0 H.gX H.held,gG:=ig (uj b) 0 H.gX H.held,gX:=[],fail:=max fail (-1),il:=H.il,dp:={H.dp with ir:=false,left:=max d (-1)}}
def rX(n:Nat)(room:Nat->Int):gA:=⟨List.replicate n kL,List.replicate n kL,[],-1,0,⟨-1,false,room,[],[]⟩⟩
open Go.Shelf
theorem DP(n:Nat)(w:Q0)(h:32<=n)(d:n<=128):Rg prog 198 #[I Y (n:Nat)] w fun e w'=>e=Ra (I Y (ik n:Nat))/\w'=w:=by
 have e:(16*((n:Int)-8)+10+53-1) / 53=(ik n:Int):=by unfold ik;omega
 have b:=gj e;clear e;go_enter func198,ntmps198;go_wp2;go_ret;exact⟨E5 b.o,rfl⟩
theorem Ba(b:Nat)(w:Q0):Rg prog 174 #[Rb 188 (Q5 (N ⟨b,0,J⟩))] w fun e w'=>e=Ra (Q5 (N ⟨G (Q w),0,J⟩))/\w'=Ro w (Q1 #[I Y 12,I Y 0,Rb 188 (Q5 (N ⟨b,0,J⟩))] 186):=by go_enter func174,ntmps174;go_wp2;go_ret;exact⟨rfl,rfl⟩
def Dd(w w':Q0)(v:Q4):Option Nat->Prop
 | none=>v=.nilIface
 | some s=>oF w w' v s
def jl(w:Q0)(lg h:Nat)(g:jP):Prop:=w.heap[lg]?=N (Q1 #[Rb 217 (Q9 #[Q5 (N ⟨h,0,J⟩)]),I Re (g.gF:Nat),I Y (g.iC:Nat),I Y (g.next:Nat)] 305 (0,0))
structure iW(H:gA)(B:Nat):Prop where
 n:32<=O H.gG/\O H.gG<=128
 hl:O H.held=O H.gG
 s64:∀b∈H.gG,O b=64
 h64:∀b∈H.held,O b=64
 gX:∀x∈H.gX,O x.1=64/\x.2<O H.held
 fail:-1<=H.fail/\H.fail<=9223372036854775807
 il:0<=H.il/\H.il<=B
 ll:O H.gX<=B
theorem iW.mono{C:Nat}(h:iW H B)(b:B<=C):iW H C:=⟨h.n,h.hl,h.s64,h.h64,h.gX,h.fail,by have:=h.il;omega,by have:=h.ll;omega⟩
theorem Ic{n:Int}(h:-1<=n/\n<=9223372036854775807):-1<=(if n<0 then n else n-1)/\(if n<0 then n else n-1)<=9223372036854775807:=by split<;>omega
theorem iW.jy(h:iW H B):iW H.jy B:=⟨h.n,h.hl,h.s64,h.h64,h.gX,Ic h.fail,h.il,h.ll⟩
theorem iW.write(h:iW H B)(l:n<O H.gG)(j:O s=64):iW (H.write n s).1 (B+1)/\(H.write n s).1.gG.length=O H.gG:=by
 unfold gA.write;split
 .exact⟨h.jy.mono (by omega),rfl⟩
 .have m:=h.jy;refine⟨⟨by rw[cA];exact h.n,by rw[cA];exact h.hl,fun b i=>?_,h.h64,fun x d=>?_,m.fail,by have:=h.il;simp only;omega,?_⟩,by rw[cA]⟩
  .rcases di i with i|rfl
   .exact h.s64 b i
   .exact j
  .simp only at d;split at d
   .exact h.gX x d
   .rcases bQ.1 d with d|d
    .exact h.gX x d
    .rw[ay.1 d];exact⟨j,by show n<O H.held;rw[h.hl];exact l⟩
  .have:=h.ll;simp only;split
   .omega
   .rw[ab];simp;omega
theorem xp{α:Type}(i:Nat->Bool):∀(l:List (α×Nat)) (k:Nat) (d:List α) (b:α),b∈ig i k l d->b∈d\/∃x∈l,b=x.1
 | [],k,d,b,h=>.inl h
 | y::l,k,d,b,h=>by
  unfold ig at h;rcases xp i l (k+1) _ b h with h|⟨x,j,rfl⟩
  .split at h
   .rcases di h with h|rfl
    .exact .inl h
    .exact .inr ⟨y,by simp,rfl⟩
   .exact .inl h
  .exact .inr ⟨x,by simp[j],rfl⟩
theorem iW.jY(h:iW H B):iW H.jY.1 B/\O H.jY.1.gG=O H.gG:=by
 have d:=h.jy;unfold gA.jY;split
 .exact⟨d,rfl⟩
 .split
  .exact⟨⟨h.n,h.hl,h.s64,h.h64,h.gX,d.fail,h.il,h.ll⟩,rfl⟩
  .refine⟨⟨h.n,(nB _ _ _ _).trans h.hl,h.s64,fun b i=>?_,fun x j=>by simp at j,d.fail,h.il,aJ _⟩,rfl⟩;rcases xp _ _ _ _ _ i with i|⟨x,j,rfl⟩
   .exact h.h64 b i
   .exact(h.gX x j).1
theorem I7(h:Nat)(w:Q0):(nilAhead 470 217 (Q9 #[Q5 (N ⟨h,0,J⟩)]) "Write").run prog w=.ok (N false) w:=by kernel_rfl
theorem CL(h:Nat)(w:Q0):(method 470 217 (Q9 #[Q5 (N ⟨h,0,J⟩)]) "Write").run prog w=.ok (252,Q9 #[Q5 (N ⟨h,0,J⟩)]) w:=by kernel_rfl
theorem I6(h:Nat)(w:Q0):(nilAhead 470 217 (Q9 #[Q5 (N ⟨h,0,J⟩)]) "Flush").run prog w=.ok (N false) w:=by kernel_rfl
theorem CK(h:Nat)(w:Q0):(method 470 217 (Q9 #[Q5 (N ⟨h,0,J⟩)]) "Flush").run prog w=.ok (249,Q9 #[Q5 (N ⟨h,0,J⟩)]) w:=by kernel_rfl
theorem rn(h:Nat)(w:Q0):(nilAhead 470 217 (Q9 #[Q5 (N ⟨h,0,J⟩)]) "Sectors").run prog w=.ok (N false) w:=by kernel_rfl
theorem o4(h:Nat)(w:Q0):(method 470 217 (Q9 #[Q5 (N ⟨h,0,J⟩)]) "Sectors").run prog w=.ok (251,Q9 #[Q5 (N ⟨h,0,J⟩)]) w:=by kernel_rfl
theorem Ls(h:Nat)(w:Q0):(nilAhead 470 217 (Q9 #[Q5 (N ⟨h,0,J⟩)]) "Read").run prog w=.ok (N false) w:=by kernel_rfl
theorem ER(h:Nat)(w:Q0):(method 470 217 (Q9 #[Q5 (N ⟨h,0,J⟩)]) "Read").run prog w=.ok (250,Q9 #[Q5 (N ⟨h,0,J⟩)]) w:=by kernel_rfl
def Qa(w:Q0)(F:Nat->Prop)(lg h:Nat)(H:gA)(g:jP)(_dv:Q4)(data:gw)(at' B i:Nat)(wr:Q0):Prop:=
 ∃(b:gA) (d:Nat->Prop),iU wr d h b/\iW b (B+i)/\O b.gG=O H.gG/\(∀k,d k->F k\/G (Q w)<=k)/\gR (fun k=>F k\/k=lg) w wr/\jl wr lg h {g with gF:=g.gF+1}/\¬d lg/\
  (∀k,d k->k<G (Q wr))/\jc ((iH (g.gF+1) data).drop i) b (at'+i)=jc (iH (g.gF+1) data) H at'
theorem NU(w:Q0)(a b c:Nat)(ha:a<256)(d:b<256)(hc:c<256):gI (Ro w (Q1 #[I Rf (a:Int),I Rf (b:Int),I Rf (c:Int)] 5)) (Q6 (N ⟨G (Q w),0,J⟩) 3 3) [UInt8.ofNat a,UInt8.ofNat b,UInt8.ofNat c]:=by
 have h:=gS.new w #[I Rf (a:Int),I Rf (b:Int),I Rf (c:Int)] 5 0 0 0 1 3 3 ux (by omega) (by decide) (by simp) (.inl (by omega));have e:(#[I Rf (a:Int),I Rf (b:Int),I Rf (c:Int)].toList.take (3*1))=l6 [UInt8.ofNat a,UInt8.ofNat b,UInt8.ofNat c]:=by simp[l6];omega
 rw[e]at h;exact h.bytes (l:=[UInt8.ofNat a,UInt8.ofNat b,UInt8.ofNat c])
theorem E9(gb go n cap i j:Nat)(a b:Int)(ha:a=(i:Int))(l:b=(j:Int))(q:i<=j)(r:j<=cap)(s:i<cap)(w:Q0):
  (Instr.slice 112 (Q6 (N ⟨gb,go,J⟩) n cap) (N (I Y a)) (N (I Y b)) J).run prog w=.ok (Q6 (N ⟨gb,go+i,J⟩) (j-i) (cap-i)) w:=by
 subst ha l;have m:prog.underlying 112=N (.slice (prog.elem 112)):=by kernel_rfl
 have o:(sizeOf (prog.elem 112)).run prog w=.ok 1 w:=by kernel_rfl
 rw[run_slice_lh (P:=prog) (w:=w) 112 (N ⟨gb,go,J⟩) n cap m Y Y (i:Int) (j:Int) (by omega) (by omega) (by omega),o];have d:¬cap=i:=by omega
 simp[Result.andThen,sliced,Addr.add,d]
theorem jl.ext{S:Nat->Prop}{lg h:Nat}(hl:jl w lg h g)(b:gR S w w')(d:¬S lg):jl w' lg h g:=b.at d hl
theorem oF.mono{w1:Q0}{s:Nat}(h:oF w1 w' v s)(d:G (Q w)<=G (Q w1)):oF w w' v s:=by obtain⟨b,h1,i,j⟩:=h;exact⟨b,h1,au d i,j⟩
theorem CH{f:Nat}(h:jc (iH (g.gF+1) data) H at'=(H1,N f)):gT H g at' data=(H1,N f):=by unfold gT;rw[h]
theorem zu(h:jc (iH (g.gF+1) data) H at'=(H1,J)):gT H g at' data=H1.jY:=by unfold gT;rw[h]
theorem LK{s:Nat}(hk:k<iw (O data)):(iH s data).drop k=mL (mz s k (iw (O data)) (mJ data k))::(iH s data).drop (k+1):=by have hl:=lP s data;rw[cD (by omega)];congr 1;unfold iH;simp
theorem Hq(h:H.jM=true):H.write n s=(H.jy,N (n+2)):=by unfold gA.write;rw[aw h]
theorem JR(h:H.jM=false):(H.write n s).2=J:=by unfold gA.write;rw[af (by rw[h];decide)]
theorem Gh(h:H.jM=true):H.jY=(H.jy,N 1):=by unfold gA.jY;rw[aw h]
theorem IF(h:H.jM=false):H.jY.2=J:=by unfold gA.jY;rw[af (by rw[h];decide)];split<;>rfl
theorem tZ(lg h:Nat)(F:Nat->Prop)(H:gA)(g:jP)(at' B:Nat)(dv:Q4)(data:gw)(w:Q0)(hl:jl w lg h g)(hh:iU w F h H)(bi:iW H B)(hB:B<=900000000)(bk:¬F lg)(bl:gI w dv data)(b2:∀k,Rl dv=N k->¬F k/\k≠lg)(hp:at'+iw (O data)<=O H.gG)(e1:g.gF<9000000000000000000):
  Rg prog 191 #[Q5 (N ⟨lg,0,J⟩),I Y (at':Nat),dv] w fun e w'=>∃r,e=Ra r/\Dd w w' r (gT H g at' data).2/\jl w' lg h {g with gF:=g.gF+1}/\kc w F (fun k=>k=lg) h (gT H g at' data).1 w'/\iW (gT H g at' data).1 (B+iw (O data)):=by
 have hn:=bi.n;have e2:O data<=53*128:=by unfold iw at hp;omega
 obtain⟨P,hP⟩:∃P,P=iw (O data):=⟨_,rfl⟩;have b3:((O data:Int)+53-1) / 53=(P:Int):=by rw[hP];unfold iw;omega
 obtain⟨fz,dc,rfl,e3,-⟩:=bl.gU;unfold jl at hl;have R:=gm hl;have c1:=gr 1 hl;have f1:=gD 1 hl;have b4:IntKind.u64.wrap ((g.gF:Int)+1)=((g.gF+1:Nat):Int):=by rw[show((g.gF:Int)+1)=((g.gF+1:Nat):Int) by omega];exact IntWalk.u64_in _ (by omega)
 have c7:=gj b3;have e4:=gj b4;rw[<-hP]at hp;have E:=gj hP;have HL:=gj hl;have bn:gy (jl (Rp w ⟨lg,1,J⟩ (I Re (g.gF+1:Nat))) lg h {g with gF:=g.gF+1}):=gj (QN _ _ 1 _ hl);have bo:gy (gR (fun k=>F k\/k=lg) w (Rp w ⟨lg,1,J⟩ (I Re (g.gF+1:Nat)))):=gj ((gR.refl _ w).setCell _ _ (.inl (.inr rfl)));have a2:gy (iU (Rp w ⟨lg,1,J⟩ (I Re (g.gF+1:Nat))) F h H):=gj (hh.frame (by rw[QO];exact aq _) fun k hk=>Below.heap_setCell w ⟨lg,1,J⟩ _ k fun e=>bk (by rw[<-show k=lg from e];exact hk));have e5:=gj hh.lt;have c8:=gj bi;have b5:=gj bl;have c9:=gj b2;have da:=gj bk;clear hP b3 b4 hl hh bi bl b2 bk;go_enter func191,ntmps191;go_wp2;rw[show((g.gF:Int)+1)=((g.gF+1:Nat):Int) by omega,c7.o];obtain⟨w1,b6⟩:∃w1,w1=Rp w ⟨lg,1,J⟩ (I Re (g.gF+1:Nat)):=⟨_,rfl⟩;rw[<-b6]at bn bo a2⊢;clear b6 c1 f1;obtain⟨S,hS⟩:∃S,S=g.gF+1:=⟨_,rfl⟩;have e6:S<=9000000000000000000:=by omega
 have HS:=gj hS;rw[<-hS];clear hS;have ej:P<=128:=by omega
 go_loopw [25] (fun i wr=>∃k:Nat,k<=P/\i=I Y (k:Int)/\Qa w F lg h H g (Q6 fz (O data) dc) data at' B k wr) (fun i _=>P-(intOf i).toNat)
 case atStart=>exact⟨0,aJ _,rfl,H,F,a2.o,c8.o,rfl,fun _=>.inl,bo.o,bn.o,da.o,a2.o.lt,rfl⟩
 case round=>
  obtain⟨k,hk,rfl,Z,Fi,r1,r2,r3,r4,r5,r6,r7,r8,r9⟩:=hrel;have br:=gj r1;have u:=gj r2;have U:=gj r4;have ap:=gj r5;have a3:=gj r6;have av:=gj r7;have dT:=gj r8;have bs:=gj r9;have b8:=gj r3;unfold jl at r6;simp only at r6;rw[<-HS.o]at r6;have c0:Rn wr ⟨lg,0,J⟩=N (Rb 217 (Q9 #[Q5 (N ⟨h,0,J⟩)])):=gr 0 r6;have c1:Rn wr ⟨lg,1,J⟩=N (I Re (S:Int)):=gr 1 r6;have b9:=gm r6;clear r1 r2 r3 r4 r5 r6 r7 r8 r9;by_cases R:k<P
  .have g1:(k:Int)<P:=by omega
   obtain⟨d,hN⟩:∃d,d=(mJ data k).length:=⟨_,rfl⟩;have c2:53*k<=O data:=by rw[E.o]at R;unfold iw at R;omega
   have ca:d=min 53 (O data-53*k):=by rw[hN];unfold mJ;rw[ax,bu]
   have em:d<=53:=by omega
   have bt:min 53 ((O data:Int)-(k:Int)*53)=(d:Int):=by omega
   have bw:=gj bt;have HN:=gj hN;have e7:=gj ca;obtain⟨a',c',e',en,cb⟩:=b5.o.gU;obtain⟨rfl,-,rfl⟩:=Value.slice.inj e';have c4:0<O data:=by rw[E.o]at R;unfold iw at R;omega
   have b1:53*k<O data:=by rw[E.o]at R;unfold iw at R;omega
   obtain⟨gb,go,rfl,d0⟩:=cb 0 c4;have d1:∀w,(Instr.slice 112 (Q6 (N ⟨gb,go,J⟩) (O data) dc) (N (I Y ((k:Int)*53))) (N (I Y ((k:Int)*53+d))) J).run prog w=.ok (Q6 (N ⟨gb,go+53*k,J⟩) d (dc-53*k)) w:=fun w=>by have:=E9 gb go (O data) dc (53*k) (53*k+d) ((k:Int)*53) ((k:Int)*53+d) (by omega) (by omega) (by omega) (by omega) (by omega) w;rw[show 53*k+d-53*k=d by omega]at this;exact this
   have cc:(data.take (53*k+d)).drop (53*k)=mJ data k:=by unfold mJ;rw[List.drop_take];rw[show 53*k+d-53*k=d by omega,hN];unfold mJ;rw[ax,<-List.take_eq_take_min]
   have cd:gy (∀W,gI W (Q6 (N ⟨gb,go,J⟩) (O data) dc) data->gI W (Q6 (N ⟨gb,go+53*k,J⟩) d (dc-53*k)) (mJ data k)):=gj fun W hW=>by have:=hW.sub (53*k) (53*k+d) (by omega) (by omega);rw[cc,show 53*k+d-53*k=d by omega]at this;exact this
   clear bt hN ca cc cb d0 e' c2 b1;go_wp2_with fail;rw[bw.o];refine(zw (G (Q wr)) (Q6 J 0 0) [] S wr (gS.nil _ _ _) (gQ.nil _ _) gH (by decide) (by omega)).mono ?_;rintro e w2 ⟨bv,rfl,X,bx,a4⟩;simp only[aI,bY,aQ]at X;have d2:=a4.size;have ce:=gj X;have cg:=gj bx;have ci:=gj a4;have H3:=gj (NU w2 k P d (by omega) (by omega) (by omega));have e8:=(a4.cell (p:=⟨lg,0,J⟩) b9).trans c0;obtain⟨sa,sc,rfl⟩:=X.shape;clear X bx a4;have bz:gy (gI wr (Q6 (N ⟨gb,go,J⟩) (O data) dc) data):=gj (gE.frame b5.o fun b e hb=>ap.o.block b hb fun e'=>by obtain⟨q1,q2⟩:=c9.o b e;exact e'.elim q1 q2)
   go_wp2_with (first
    | (at_builtin;refine nV rfl (.tmp 38) (.tmp 45) rfl (G (Q wr)) (Q6 sa 8 sc) 8 (nC S) rfl (by exact ce.o.below ((gJ w2).alloc gH _)) (cg.o.alloc _) [UInt8.ofNat k,UInt8.ofNat P,UInt8.ofNat d] (by exact H3.o) (by simp) (by simp;omega) ?_;intro v3 w3 al _ bA cl;simp only[ao,aI,Nat.reduceAdd]at al;have bB:=gj al;have cm:=gj bA;have a5:gy (Q8 (G (Q wr)) wr w3):=gj ((ci.o.alloc d2 _).trans cl);clear al bA cl;obtain⟨e9,fb,rfl⟩:=bB.o.shape)
    | (at_builtin;refine nV rfl (.tmp 47) (.tmp 55) rfl (G (Q wr)) _ 11 _ rfl bB.o cm.o (mJ data k) (by have d6:=cd.o w3 (bz.o.below a5.o);exact d6) (by rw[<-HN.o];omega) a5.o.size ?_;intro v4 w4 a6 _ bD cn;have bE:=gj a6;have d7:=gj bD;have a7:gy (Q8 (G (Q wr)) wr w4):=gj (a5.o.trans cn);have fd:=(a7.o.cell (p:=⟨lg,0,none⟩) b9).trans c0;clear a6 bD cn))
   have bH:(at':Int)+(k:Int)=((at'+k:Nat):Int):=by omega
   have bI:=gj bH;clear bH;have bL:gI w4 v4 (mz S k P (mJ data k)):=by have h1:=bE.o.bytes (l:=nC S++[UInt8.ofNat k,UInt8.ofNat P,UInt8.ofNat d]++mJ data k) |>.name;obtain⟨m,rfl,h2⟩:=h1;unfold mz;rw[<-HN.o];exact h2
   have co:=gj bL;have cp:∀b,Rl v4=N b->¬Fi b:=fun b e hF=>by have h1:=bE.o.ie b e;have h2:=dT.o b hF;omega
   have d9:=gj cp;have a8:(mz S k P (mJ data k)).length<=64:=by rw[uE,<-HN.o];omega
   have bM:=gj a8;have cq:=gj (br.o.below a7.o);have fg:=I7 h;have fi:=CL h;have aE:gy (at'+k<O Z.gG/\O Z.gG<=1000):=gj (by rw[b8.o];omega);have cr:=gj (LK (s:=g.gF+1) (data:=data) (k:=k) (by rw[<-E.o];exact R));obtain⟨fk,fl,rfl⟩:=bE.o.shape;have bN:gy (jl w4 lg h {g with gF:=g.gF+1}):=gj (gC a7.o (gm a3.o) a3.o);have a9:=gj (ap.o.trans (gR.gO a7.o));clear bL cp a8 a2 bo bn bw cd bz ce cg ci H3 bB cm a5 d7 d1;cases M:Z.jM with
   | true=>go_wp2_with fail;rw[bI.o];refine(Mj h Fi Z (at'+k) _ _ w4 cq.o co.o bM.o aE.o.1 aE.o.2 M).mono ?_;rintro e w5 ⟨v,rfl,a0,y,C⟩;have cs:=Hq (n:=at'+k) (s:=mL (mz S k P (mJ data k))) M;have eb:=gj cs;have bO:=gj a0;have V:=gj y;have D:=gj C;obtain⟨fB,rfl,-,-⟩:=a0;clear y C cs;go_wp2;go_ret;have fR:gT H g at' data=(Z.jy,N (at'+k+2)):=CH (by rw[<-bs.o,cr.o];unfold jc;rw[<-E.o,<-HS.o,eb.o]);refine⟨_,rfl,?_⟩;rw[fR];exact⟨bO.o.mono a9.o.size,bN.o.ext D.o av.o,⟨Fi,V.o,U.o,a9.o.j8 D.o fun j hj=>(U.o j hj).imp .inl id⟩,u.o.jy.mono (by rw[<-E.o];omega)⟩
   | false=>
    have ba:=u.o.ll;have c5:=u.o.il;go_wp2_with fail;rw[bI.o];refine(JS h Fi Z (at'+k) _ _ w4 cq.o co.o d9.o bM.o aE.o.1 aE.o.2 M u.o.fail (by omega) (by omega)).mono ?_;rintro e w5 ⟨rfl,ec⟩;obtain⟨F',y,ct,C⟩:=ec;have bP:gR Fi w4 w5:=C.mono fun j hj=>hj.elim id False.elim;have V:=gj y;have D:=gj bP;have ag:=gj ct;have ed:=gj (JR (n:=at'+k) (s:=mL (mz S k P (mJ data k))) M);have bR:=gj (u.o.write (n:=at'+k) (s:=mL (mz S k P (mJ data k))) aE.o.1 (qx bM.o));clear y ct C bP ba c5;go_wp2;go_roundw
    case rel=>
     refine⟨k+1,by omega,by go_num,_,F',V.o,bR.o.1,bR.o.2.trans b8.o,fun j hj=>?_,a9.o.j8 D.o fun j hj=>(U.o j hj).imp .inl id,bN.o.ext D.o av.o,fun hl=>?_,V.o.lt,?_⟩
     .rcases ag.o j hj with e|e
      .exact U.o j e
      .exact .inr (au a9.o.size e)
     .rcases ag.o lg hl with e|e
      .exact av.o e
      .have:=gm bN.o;omega
     .rw[<-bs.o,cr.o,<-E.o]
      conv=>rhs;unfold jc
      rw[<-HS.o];have h1:=ed.o;generalize Z.write (at'+k) (mL (mz S k P (mJ data k)))=q at h1⊢;obtain⟨q1,q2⟩:=q;simp only at h1;subst h1;rw[bT]
    case measure=>simp[intOf];omega
  .obtain rfl:k=P:=by omega
   have fn:=I6 h;have fo:=CK h;have bb:gy (jc (iH (g.gF+1) data) H at'=(Z,J)):=gj (by rw[<-bs.o,gd (by rw[lP,E.o];exact aq _)];rfl);have ba:=u.o.ll;cases M:Z.jM with
   | true=>go_wp2_with fail;refine(La h Fi Z wr br.o M).mono ?_;rintro e w5 ⟨v,rfl,a0,y,C⟩;have bO:=gj a0;have V:=gj y;have D:=gj C;have ag:=gj (Gh M);obtain⟨fB,rfl,-,-⟩:=a0;clear y C;go_wp2;go_ret;refine⟨_,rfl,?_⟩;rw[zu bb.o,ag.o];exact⟨bO.o.mono ap.o.size,a3.o.ext D.o av.o,⟨Fi,V.o,U.o,ap.o.j8 D.o fun j hj=>(U.o j hj).imp .inl id⟩,u.o.jy.mono (by rw[<-E.o];omega)⟩
   | false=>have eg:=u.o.hl;go_wp2_with fail;refine(IG h Fi Z wr br.o M u.o.fail (by omega) (fun x hx=>(u.o.gX x hx).2) (by have:=u.o.n;omega)).mono ?_;rintro e w5 ⟨rfl,y,C⟩;have V:=gj y;have D:=gj C;have ag:=gj (IF M);clear y C eg;go_wp2;go_ret;refine⟨_,rfl,?_⟩;rw[zu bb.o,ag.o];exact⟨rfl,a3.o.ext D.o av.o,⟨Fi,V.o,U.o,ap.o.j8 D.o fun j hj=>(U.o j hj).imp .inl id⟩,u.o.jY.1.mono (by rw[<-E.o];omega)⟩
end Go.Proofs.YtkkfmkhbdoeglabGreatDoor
