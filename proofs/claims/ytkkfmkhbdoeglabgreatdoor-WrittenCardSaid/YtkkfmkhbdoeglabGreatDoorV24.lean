/- Lemmas of the proof. No condition. -/
import Derived.Test.YtkkfmkhbdoeglabGreatDoorV23
set_option maxHeartbeats 4000000
set_option maxRecDepth 100000
namespace Go.Proofs.YtkkfmkhbdoeglabGreatDoor
open Go renaming World->Q0,Value->Q4,Calls->Rg,TypeId->Ri
open Go.Ending renaming returned->Ra
open Go.IntKind renaming i64->Y,u64->Re,u8->Rf
open Go.Obj renaming cells->Q1
open Go.RowKit renaming Below->Q8
open Go.Value renaming int->I,pointer->Q5,slice->Q6,string->Q7,agg->Q9,tuple->Rc,bool->Rh,ownBlock->Rl
open Go.World renaming heap->Q,cell?->Rn,alloc->Ro,setCell->Rp
open List renaming length->O,toArray->Rm
open Option renaming none->J,some->N
open _root_.Array renaming size->G
open Go.Proofs.Tryz
open Go.RowKit Go.Shelf
variable{A B R f n s:Nat}{D M:Nat->Prop}{L:List gw}{P':Option iM}{a a' a1:iy}{armed:Bool}{b:Exit->Act->Q0->Prop}{c d g r t v:Q4}{e:Ending}{ever ever':List E}{l:List Int}{maybe:List (Nat×List E)}{tk:iV}{w' w1 w2:Q0}
theorem MY(d:Int)(l:List Int)(rv:Q4)(w:Q0)(hr:gE w rv 1 (O l) (l.map fun i=>I Y i))(n:Nat)(hn:(n:Int)=min (max d 32) 128)(r:gZ w)(E:kM w)(H':gA)(p:iM)(F:j7 (rX n (gY l))=(H',.inl p)):
  Rg prog 65 #[I Y d,rv] w fun e w'=>∃X M,e=Ra (Rc #[Q5 (N ⟨X,0,J⟩),sH 0 0 0])/\lM w' M X H' (N p)/\(∀k,M k->G (Q w)<=k)/\Q8 (G (Q w)) w w':=by
 have j:Q8 (G (Q w)) w (Ro w (Q1 #[I Y 0,I Y 0,I Y 0] 34)):=(Below.rf w).alloc gH _;have R0:=gB w (Q1 #[I Y 0,I Y 0,I Y 0] 34);have R:(Ro w (Q1 #[I Y 0,I Y 0,I Y 0] 34)).heap.size=G (Q w)+1:=aj _ _;have s:=r.new j;have u:=E.new j;have S:=gj (GF d l rv _ (hr.below j) n hn);have U:32<=n/\n<=128:=by omega
 have a5:=gj F;have h2:=r.two;have a6:=gj j;have V:=gj R0;have a7:=gj R;have a8:=gj s;have a9:=gj u;clear hr hn r E F j R0 R s u;go_enter func65,ntmps65;go_wp2_with fail;refine S.o.mono ?_;rintro e w1 ⟨h,rfl,W,m⟩;generalize Ro w (Q1 #[I Y 0,I Y 0,I Y 0] 34)=x at *
 have q:Q8 (G (Q w1)) w1 (Ro w1 (Q1 #[Q5 (N ⟨h,0,J⟩),Q5 J] 136)):=(Below.rf w1).alloc gH _;have X2:=gB w1 (Q1 #[Q5 (N ⟨h,0,J⟩),Q5 J] 136);have Z:(Ro w1 (Q1 #[Q5 (N ⟨h,0,J⟩),Q5 J] 136)).heap.size=G (Q w1)+1:=aj _ _;have aa:=m.size;have bs:=a7.o;have bb:=gj (Bg n 0 (G (Q w1)) h l (fun k=>G (Q x)<=k/\k<G (Q w1)+1) (fun k=>G (Q x)<=k/\k<G (Q w1)) (rX n (gY l)) (Q5 J) _ X2 ⟨aa,by omega⟩ (W.below q) (fun k hk=>⟨⟨hk.1,by omega⟩,by omega⟩) (nm.new n l U) (by omega) (DK n l U) ((a8.o.new m).new q) ((a9.o.new m).new q) (fun k hk=>by omega));have ag:=gj m;have y:=gj q;clear W m q X2 S Z;go_wp2_with fail;refine bb.o.mono ?_;rintro e w3 ak;rw[a5.o]at ak;obtain⟨rfl,M',al,am,ap⟩:=ak;have bc:gR (fun _=>False) x w1:=gR.gO ag.o;have B:Q8 (G (Q x)) x w3:=(ag.o.trans (y.o.mono aa)).trans (ap.below (by have:=y.o.size;omega) fun k hk e=>by omega);have b:=gC B (gm V.o) V.o;have bi:=gj b;have bk:=gj al;have av:=gj am;have aE:=gj B;have bl:=gj (y.o.size);have bw:=gr 0 b;have bx:=gr 1 b;have bz:=gr 2 b;have bA:=gD 0 b;have bB:=gD 1 b;have bD:=gD 2 b;have bE:=gm b;clear al am ap B b bc;unfold sH;go_wp2;have C:=uk bi.o (I Y 0) (I Y 0) (I Y 0);have q0:=gr 0 C;have q1:=gr 1 C;have q2:=gr 2 C;have D:gR (fun k=>k=G (Q w)) w3 (vU w3 (G (Q w)) (I Y 0) (I Y 0) (I Y 0)):=rQ w3 (G (Q w)) _ _ _;unfold vU at q0 q1 q2 D;refine ai (v:=Rc #[Q5 (N ⟨G (Q w1),0,J⟩),Q9 #[I Y 0,I Y 0,I Y 0]]) (by simp[results,results65,go_sem,q0,q1,q2]) rfl ?_;have Z:=bl.o;refine⟨G (Q w1),M',rfl,bk.o.frame D fun k hk e=>?_,fun k hk=>?_,?_⟩
 .have e':k=G (Q w):=e;rcases av.o k hk with h'|h'
  .omega
  .omega
 .rcases av.o k hk with h'|h'
  .omega
  .omega
 .exact(a6.o.trans (aE.o.mono (by omega))).trans (D.below (by have:=aE.o.size;omega) fun k hk e=>by have e':k=G (Q w):=e;omega)
theorem EF(n B X:Nat)(l:List Int)(M:Nat->Prop)(H:gA)(p:iM)(frame:gw)(w:Q0)(hh:lM w M X H (N p))(hr:Mq n l B H p)(hl:O frame<=1000000)(am:gZ w)(ap:kM w)(av:∀k,M k->2<=k):
  Rg prog 27 #[Q5 (N ⟨X,0,J⟩),Q7 ⟨Rm frame⟩] w fun e w'=>e=Ra (Rc #[])/\mD w M X (mn H p frame).1 (N (mn H p frame).2) w':=by
 obtain⟨h,a,M',r,hX,⟨F,b,d,x,hm,aE⟩,a0⟩:=hh.Lp;have bN:(1000000:Nat)<=im:=by decide
 have bc:=gm r;have HM:=gj hm;have HR:=gj hr;have bi:=gj r;have s:=gj aE;have u:=gj a0;have bk:=gj am;have bl:=gj ap;have bn:=gj av;obtain⟨R,hR⟩:∃R,R=mn H p frame:=⟨_,rfl⟩;have bo:=gj hR;rw[<-hR];clear hh hm hr r aE a0 am ap av hR;go_enter func27,ntmps27;go_wp2_with (first|(refine Aa rfl (.tmp 6) rfl frame rfl (by omega) ?_;intro cap w1 y U bO;have r1:=gC U bc bi.o;have c1:=gr 1 r1;have br:=gm r1;have bs:=gj r1;have a1:=gj y;have C:=gj U;clear r1 y U)|fail);have bt:gy (∀k,F k\/b k\/d k->k<G (Q w)):=gj fun k hk=>hk.elim (HM.o.kQ.lt k) fun hk=>hk.elim (HM.o.ag.glt k) (HM.o.ag.olt k);have j:=HR.o;refine(En n B a h l F b d (fun k=>F k\/b k\/d k) H p x (Q6 (N ⟨G (Q w),0,J⟩) (O frame) cap) frame w1 (HM.o.below C.o) (fun k hk=>hk) j.up j.fit (by have:=j.nP.ok.n;rw[j.nP.len]at this;exact this) j.nP.ok j.low j.gF (by have:=j.nP.dp.iF;have:=j.low;omega) a1.o.bytes (by omega) (bk.o.new C.o) (bl.o.new C.o) (fun k hk=>bn.o k (u.o k (s.o k hk)).1)).mono ?_;rintro e w2 ⟨rfl,V⟩;rw[<-bo.o]at V;have bv:=nS.Pd (M:=fun k=>(F k\/b k\/d k)\/k=X) bs.o (.inr rfl) (fun k hk=>⟨.inl hk,(u.o k (s.o k hk)).2⟩) V;obtain⟨M3,a2,W,q⟩:=bv;have a3:¬((F (G (Q w))\/b (G (Q w))\/d (G (Q w)))\/G (Q w)=X):=fun e=>e.elim (fun e=>dt _ (bt.o _ e)) fun e=>by omega
 have a4:=a1.o.frame q.size fun k e hk=>q.block k hk (by cases e;exact a3);have Z:∀k,M3 k->k≠G (Q w):=fun k hk e=>by
  rcases W k hk with m|m
  .exact a3 (e▸m)
  .omega
 have aa:∀k,M3 k->M k\/G (Q w)<=k:=fun k hk=>by
  rcases W k hk with m|m
  .exact .inl (m.elim (fun m=>(u.o k (s.o k m)).1) fun e=>e▸hX)
  .exact .inr (by omega)
 have bw:=gj (show gR M w w2 from(gR.gO C.o).trans (q.mono fun k m=>m.elim (fun m=>(u.o k (s.o k m)).1) fun e=>e▸hX));have bx:=gj a2;have bz:=gj aa;have a8:=gj Z;have D:∀i,i<O frame->(Rn w2 ⟨G (Q w),i,J⟩).isSome=true/\w2.frozen? ⟨G (Q w),i,J⟩=false:=by
  obtain⟨-,hx|⟨g,off,bH,he,_,_,hn,_,_,hf⟩⟩:=a4
  .cases hx.1
  .cases he;intro i hi;have:=hf i (by omega);rw[bY]at this;exact this
 have bL:=q.size;have h0:sQ w2 (G (Q w)) (O frame) (I Y 0) w2:=⟨0,aJ _,rfl,D,by omega,gR.refl _ _⟩;clear D V a2 W q a4 Z aa c1 br;go_wp2;go_loopw [16] (fun i wr=>sQ w2 (G (Q w)) (O frame) i wr) (fun i _=>O frame-(intOf i).toNat)
 case atStart=>exact h0
 case round=>
  clear h0;obtain⟨k,hk,rfl,E,bB,hx⟩:=hrel;by_cases a5:k<O frame
  .have bM:(k:Int)<O frame:=by omega
   obtain⟨S,hz⟩:=E k a5;obtain⟨ov,bP⟩:=cR.1 S;have bD:=gj E;clear E S;go_wp2;exact⟨sQ.step a5 bD.o bB hx,by simp[intOf];omega⟩
  .obtain rfl:k=O frame:=by omega
   have bR:¬(O frame:Int)<O frame:=by omega
   clear E;go_wp2;go_end0;exact⟨rfl,M3,bx.o.frame hx a8.o,bz.o,bw.o.j8 hx fun k e=>.inr (by have e':k=G (Q w):=e;omega)⟩
def Aw(w1:Q0)(g off n:Nat)(i:Q4)(wr:Q0):Prop:=
 ∃k:Nat,k<=n/\i=I Y k/\(∀i,i<n->(Rn wr ⟨g,off+i,J⟩).isSome=true/\wr.frozen? ⟨g,off+i,J⟩=false)/\g<G (Q wr)/\gR (fun b=>b=g) w1 wr
theorem Aw.step{wr:Q0}{g off k:Nat}(hk:k<n)(h1:∀i,i<n->(Rn wr ⟨g,off+i,J⟩).isSome=true/\wr.frozen? ⟨g,off+i,J⟩=false)(l:g<G (Q wr))(m:gR (fun b=>b=g) w1 wr):
  Aw w1 g off n (I Y ((k+1:Nat):Int)) (Rp wr ⟨g,off+k,J⟩ v):=by
 refine⟨k+1,hk,rfl,fun i o=>?_,by rw[QO];exact l,m.setCell _ _ (.inl rfl)⟩;obtain⟨d,q⟩:=h1 i o;refine⟨?_,by rw[fq];exact q⟩;by_cases j:i=k
 .subst j;obtain⟨x,r⟩:=cR.1 d;rw[World.cell?_setCell_same (h:=r)];rfl
 .rw[cW (h:=by simp<;>omega)];exact d
def Km(r:Option gw):Q4:=Rc #[Q7 ⟨(r.getD []).toArray⟩,Rh r.isSome]
theorem Lh(M:Nat->Prop)(X:Nat)(H:gA)(p:iM)(w:Q0)(hh:lM w M X H (N p))(hf:p.a.mN):
  Rg prog 80 #[Q5 (N ⟨X,0,J⟩)] w fun e w'=>e=Ra (Km p.a.next.2)/\mD w M X H (N {p with a:=p.a.next.1}) w':=by
 obtain⟨h,a,M',s,hX,⟨F,d,l,x,hm,av⟩,aE⟩:=hh.Lp;have q:=hm.ag.row;unfold AV.cells at q;have c4:=gr 4 q;have c1:=gr 1 s;have bw:=gm s;have bx:=gm q;have m:=hm.ag.out;cases R:p.a.out with
 | nil=>rw[R]at m;have W:=gj (AD a x.c l [] w c4 m);have HN:gy (p.a.next=(p.a,J)):=gj (by unfold iy.next;rw[R]);have HH:=gj hh;clear hh hm s q m R c4;go_enter func80,ntmps80;go_wp2_with fail;refine W.o.mono ?_;rintro e w1 ⟨rfl,rfl⟩;go_wp2_with (refine iL rfl (.tmp 16) rfl [] (by exact gI.nil _ _ _) ?_);refine wp_loop_rounds 1 ?_;rw[rounds_succ];go_wp2;go_ret2;rw[HN.o];exact⟨rfl,HH.o.go⟩
 | cons b out=>
  rw[R]at m;have W:=gj (AD a x.c l (b::out) w c4 m);have HN:gy (p.a.next=({p.a with out:=out},N b)):=gj (by unfold iy.next;rw[R]);have bz:O b<=13:=hf.olen b (by rw[R];simp);have C:=gj hm;have a6:=gj s;have D:=gj av;have E:=gj aE;clear hh hm s q m R c4 av aE;go_enter func80,ntmps80;go_wp2_with fail;refine W.o.mono ?_;rintro e w1 ⟨u,rfl,y,m,B⟩;obtain⟨Z,bs,a0⟩:=y;have a1:=Z.bytes;obtain⟨-,bA|⟨g,off,cap,rfl,-,aa,bB,-,am,S⟩⟩:=Z
  .omega
  have U:=a0 g rfl;have a2:=C.o.ag.outs (O':=fun j=>l j/\(Q6 (N ⟨g,off,J⟩) (O b) cap).ownBlock≠N j) m B (fun k hk=>ae (C.o.ag.olt k hk.1) B.size) (fun k hk=>.inl hk.1);have ak:=C.o.ag.ru.2.2.2;have a3:jL w1 F d (fun j=>l j/\(Q6 (N ⟨g,off,J⟩) (O b) cap).ownBlock≠N j) a h H {p with a:={p.a with out:=out}} x:=⟨C.o.kQ.ext B fun k hk e=>C.o.fg k hk (e▸ak),a2,C.o.fg,fun k hk e=>C.o.fo k hk e.1⟩;have a7:=gj a3;have a8:=gj B;have a9:=gj a1;have ba:X≠x.c:=fun e=>(E.o x.c (D.o _ (.inr (.inl ak)))).2 e.symm;have bb:X≠g:=fun e=>(E.o g (D.o _ (.inr (.inr U)))).2 e.symm;have bc:=gj (B.at ba a6.o);have h0:Aw w1 g off (O b) (I Y 0) w1:=⟨0,aJ _,rfl,fun i hi=>S i (by omega),aa,gR.refl _ _⟩;clear m B a3 a2 a1 a0 c1 am S;go_wp2_with (refine iL rfl (.tmp 16) rfl b (by exact a9.o) ?_);go_loopw [20] (fun i wr=>Aw w1 g off (O b) i wr) (fun i _=>O b-(intOf i).toNat)
  case atStart=>exact h0
  case round=>
   clear h0;obtain⟨k,hk,rfl,y,aa,hx⟩:=hrel;by_cases a4:k<O b
   .have bt:(k:Int)<O b:=by omega
    obtain⟨V,hz⟩:=y k a4;obtain⟨ov,bD⟩:=cR.1 V;have bk:=gj y;clear y V;go_wp2;exact⟨Aw.step a4 bk.o aa hx,by simp[intOf];omega⟩
   .obtain rfl:k=O b:=by omega
    have bE:¬(O b:Int)<O b:=by omega
    clear y;go_wp2;go_ret2;rw[HN.o];refine⟨rfl,M,⟨h,_,hx.at bb bc.o,hX,a,M',rfl,⟨F,d,_,x,a7.o.frame hx fun j r e=>?_,fun j r=>D.o j (r.imp id fun r=>r.imp id fun r=>r.1)⟩,E.o⟩,fun j=>.inl,?_⟩
    .have e':j=g:=e;subst e';rcases r with r|r|r
     .exact C.o.fo j r U
     .exact C.o.ag.sep j r U
     .exact r.2 rfl
    .exact(a8.o.mono fun j e=>(E.o j (D.o j (.inr (.inl (e▸ak))))).1).trans (hx.mono fun j e=>(E.o j (D.o j (.inr (.inr (e▸U))))).1)
def xy(p:iM):Nat×Nat×Nat:=match p.a.l4 with
 | none=>(0,0,0)
 | some f=>(f.1,f.2,if f.1=12 then p.nQ else 0)
theorem CC(M:Nat->Prop)(X:Nat)(H:gA)(p:iM)(w:Q0)(hh:lM w M X H (N p))(hd:∀f,p.a.l4=N f->1<=f.1/\f.1<=14/\p.nQ<=100000)(al:kM w):
  Rg prog 41 #[Q5 (N ⟨X,0,J⟩)] w fun e w'=>e=Ra (sH (xy p).1 (xy p).2.1 (xy p).2.2)/\Q8 (G (Q w)) w w':=by
 obtain⟨h,a,M',S,-,⟨F,d,i,x,hm,-⟩,-⟩:=hh.Lp;have y:Q8 (G (Q w)) w (Ro w (Q1 #[I Y 0,I Y 0,I Y 0] 34)):=(Below.rf w).alloc gH _;have U:=gj (gB w (Q1 #[I Y 0,I Y 0,I Y 0] 34));have W:=gC y (gm S) S;have c1:=gr 1 W;have a9:=gm W;have am:=gj (AB a h p x d i _ (hm.ag.below y));have ap:=gj (al.new y);have Z:=gj y;have HD:=gj hd;clear hh hm S y W al hd;go_enter func41,ntmps41;go_wp2_with fail;refine am.o.mono ?_;rintro e w1 ⟨av,V⟩;generalize Ro w (Q1 #[I Y 0,I Y 0,I Y 0] 34)=w0 at *
 have r:=gj av;clear av c1 a9 am;cases l:p.a.l4 with
 | none=>rw[l]at V;obtain rfl:e=Ra .nilIface:=V;have HE:gy (xy p=(0,0,0)):=gj (by unfold xy;rw[l]);clear l;go_wp2_with fail;refine(DN _).mono ?_;rintro e w3 ⟨rfl,m⟩;have j:=gC (r.o.tn m) (gm U.o) U.o;have B:=gj j;have s:=gj (Z.o.tn (r.o.tn m));have aE:=gr 0 j;have a0:=gr 1 j;have a1:=gr 2 j;have a2:=gD 0 j;have a3:=gD 1 j;have a4:=gD 2 j;have a5:=gm j;clear m j;go_wp2;have q:=uk B.o (I Y (0)) (I Y (0)) (I Y (0));have C:=gr 0 q;have D:=gr 1 q;have E:=gr 2 q;have u:gR (fun k=>k=G (Q w)) w3 (vU w3 (G (Q w)) (I Y (0)) (I Y (0)) (I Y (0))):=rQ w3 (G (Q w)) _ _ _;unfold vU at C D E u;refine ai (v:=Q9 #[I Y (0),I Y (0),I Y (0)]) (by simp[results,results41,go_sem,C,D,E]) rfl ?_;refine⟨?_,s.o.trans (u.below s.o.size fun k hk e=>by have e':k=G (Q w):=e;omega)⟩;rw[HE.o];rfl
 | some f=>
  rw[l]at V;obtain⟨ev,rfl,b,rfl,V⟩:=V;obtain⟨k1,k2,k3⟩:=HD.o f l;rcases V with ⟨R,hr⟩|⟨R,c,hr,hc⟩
  .have HE:gy (xy p=(f.1,f.2,0)):=gj (by unfold xy;rw[l];simp only;rw[af R]);have HP:=gj (GR b (f.1:Nat) (f.2:Nat) w1 (ap.o.new r.o) hr (by omega) (by omega));clear l hr R;go_wp2_with fail;refine HP.o.mono ?_;rintro e w3 ⟨rfl,m⟩;have j:=gC (r.o.tn m) (gm U.o) U.o;have B:=gj j;have s:=gj (Z.o.tn (r.o.tn m));have aE:=gr 0 j;have a0:=gr 1 j;have a1:=gr 2 j;have a2:=gD 0 j;have a3:=gD 1 j;have a4:=gD 2 j;have a5:=gm j;clear m j;go_wp2;have q:=uk B.o (I Y (((f.1:Nat):Int))) (I Y (((f.2:Nat):Int))) (I Y (0));have C:=gr 0 q;have D:=gr 1 q;have E:=gr 2 q;have u:gR (fun k=>k=G (Q w)) w3 (vU w3 (G (Q w)) (I Y (((f.1:Nat):Int))) (I Y (((f.2:Nat):Int))) (I Y (0))):=rQ w3 (G (Q w)) _ _ _;unfold vU at C D E u;refine ai (v:=Q9 #[I Y (((f.1:Nat):Int)),I Y (((f.2:Nat):Int)),I Y (0)]) (by simp[results,results41,go_sem,C,D,E]) rfl ?_;refine⟨?_,s.o.trans (u.below s.o.size fun k hk e=>by have e':k=G (Q w):=e;omega)⟩;rw[HE.o];rfl
  .have HE:gy (xy p=(f.1,f.2,p.nQ)):=gj (by unfold xy;rw[l];simp only;rw[aw R]);have HP:=gj (wu b c (f.1:Nat) (f.2:Nat) p.nQ w1 (ap.o.new r.o) hr hc k3 (by omega) (by omega));clear l hr hc R;go_wp2_with fail;refine HP.o.mono ?_;rintro e w3 ⟨rfl,m⟩;have j:=gC (r.o.tn m) (gm U.o) U.o;have B:=gj j;have s:=gj (Z.o.tn (r.o.tn m));have aE:=gr 0 j;have a0:=gr 1 j;have a1:=gr 2 j;have a2:=gD 0 j;have a3:=gD 1 j;have a4:=gD 2 j;have a5:=gm j;clear m j;go_wp2;have q:=uk B.o (I Y (((f.1:Nat):Int))) (I Y (((f.2:Nat):Int))) (I Y (((p.nQ:Nat):Int)));have C:=gr 0 q;have D:=gr 1 q;have E:=gr 2 q;have u:gR (fun k=>k=G (Q w)) w3 (vU w3 (G (Q w)) (I Y (((f.1:Nat):Int))) (I Y (((f.2:Nat):Int))) (I Y (((p.nQ:Nat):Int)))):=rQ w3 (G (Q w)) _ _ _;unfold vU at C D E u;refine ai (v:=Q9 #[I Y (((f.1:Nat):Int)),I Y (((f.2:Nat):Int)),I Y (((p.nQ:Nat):Int))]) (by simp[results,results41,go_sem,C,D,E]) rfl ?_;refine⟨?_,s.o.trans (u.below s.o.size fun k hk e=>by have e':k=G (Q w):=e;omega)⟩;rw[HE.o];rfl
theorem sX.op{w:Q0}{X:Nat}{R:gA×(iM⊕(Nat×Nat×Nat))}(h:sX w M X R e w'):∃k a s P',e=Ra (sH k a s)/\mD w M X R.1 P' w'/\∀d i w2,mD d i X R.1 P' w2->sX d i X R (Ra (sH k a s)) w2:=by
 obtain⟨H',r⟩:=R;cases r with
 | inl p=>obtain⟨h1,b⟩:=h;exact⟨0,0,0,N p,h1,b,fun _ _ _ h=>⟨rfl,h⟩⟩
 | inr y=>obtain⟨k,a,s⟩:=y;obtain⟨h1,b⟩:=h;exact⟨k,a,s,J,h1,b,fun _ _ _ h=>⟨rfl,h⟩⟩
structure pY(w:Q0)(K:Nat->Prop)(X:Nat)(H:gA)(P:Option iM):Prop where
 kQ:∃M,lM w M X H P/\∀k,M k->¬K k
 sh:gZ w
 er:kM w
 lo:∀k,k<2->K k
 lt:∀k,K k->k<G (Q w)
abbrev nA(K:Nat->Prop)(w w':Q0):Prop:=gR (fun k=>¬K k) w w'
theorem pY.below{w:Q0}{K:Nat->Prop}{X:Nat}{H:gA}{P:Option iM}(h:pY w K X H P)(b:Q8 (G (Q w)) w w'):pY w' K X H P:=by obtain⟨⟨M,h1,d⟩,i,j,l,m⟩:=h;exact⟨⟨M,h1.below b,d⟩,i.new b,j.new b,l,fun k hk=>ae (m k hk) b.size⟩
theorem pY.two{w:Q0}{K:Nat->Prop}{X:Nat}{H:gA}{P:Option iM}(h:pY w K X H P)(b:∀k,M k->¬K k):∀k,M k->2<=k:=fun k hk=>Nat.not_lt.1 fun e=>b k hk (h.lo k e)
theorem pY.oK{w:Q0}{K:Nat->Prop}{X:Nat}{H H':gA}{P:Option iM}(h:pY w K X H P)(d:∀k,M k->¬K k)(j:mD w M X H' P' w'):pY w' K X H' P'/\nA K w w':=by obtain⟨l,g1,g2,b⟩:=j;have m:nA K w w':=b.mono d;have i:=h.two d;exact⟨⟨⟨l,g1,fun k hk=>(g2 k hk).elim (d k) fun e hK=>dt _ (ae (h.lt k hK) e)⟩,h.sh.ext b i,h.er.ext b i,h.lo,fun k hk=>ae (h.lt k hk) b.size⟩,m⟩
theorem pY.other{w:Q0}{K:Nat->Prop}{X:Nat}{H:gA}{P:Option iM}(h:pY w K X H P)(b:gR D w w')(j:∀k,D k->K k)(d:∀k,D k->2<=k):pY w' K X H P:=by obtain⟨⟨M,h1,i⟩,l,m,o,q⟩:=h;exact⟨⟨M,h1.frame b fun k hk e=>i k hk (j k e),i⟩,l.ext b d,m.ext b d,o,fun k hk=>ae (q k hk) b.size⟩
theorem Kz.lt{w:Q0}{a h:Nat}{H:gA}{P:iM}(hm:Kz w M a h H P):Kz w (fun k=>M k/\k<G (Q w)) a h H P:=by obtain⟨F,b,d,x,h1,i⟩:=hm;exact⟨F,b,d,x,h1,fun k hk=>⟨i k hk,hk.elim (h1.kQ.lt k) fun hk=>hk.elim (h1.ag.glt k) (h1.ag.olt k)⟩⟩
theorem lM.bound{w:Q0}{X:Nat}{H:gA}{P:Option iM}(l:lM w M X H P):lM w (fun k=>M k/\k<G (Q w)) X H P:=by
 obtain⟨h,m,h1,o,j⟩:=l;refine⟨h,m,h1,⟨o,gm h1⟩,?_⟩;cases P with
 | none=>obtain⟨i,F,d,b⟩:=j;exact⟨i,F,d,fun k hk=>⟨⟨(b k hk).1,d.lt k hk⟩,(b k hk).2⟩⟩
 | some p=>obtain⟨a,q,i,d,b⟩:=j;exact⟨a,_,i,d.lt,fun k hk=>⟨⟨(b k hk.1).1,hk.2⟩,(b k hk.1).2⟩⟩
theorem pY.Gq{w:Q0}{K:Nat->Prop}{X:Nat}{H:gA}{P:Option iM}(h:pY w K X H P)(b:Q8 (G (Q w)) w w')(D:Nat->Prop)(d:∀k,D k->G (Q w)<=k/\k<G (Q w')):pY w' (fun k=>K k\/D k) X H P:=by obtain⟨⟨M,h1,i⟩,j,l,m,o⟩:=h;exact⟨⟨_,h1.bound.below b,fun k hk e=>e.elim (i k hk.1) fun e=>by have:=(d k e).1;have:=hk.2;omega⟩,j.new b,l.new b,fun k hk=>.inl (m k hk),fun k hk=>hk.elim (fun hk=>ae (o k hk) b.size) fun hk=>(d k hk).2⟩
theorem pY.new{w:Q0}{X:Nat}{H:gA}{P:Option iM}(j:lM w' M X H P)(l:∀k,M k->G (Q w)<=k)(d:Q8 (G (Q w)) w w')(b:gZ w)(i:kM w):pY w' (fun k=>k<G (Q w)) X H P:=
 ⟨⟨M,j,fun k hk e=>by have:=l k hk;omega⟩,b.new d,i.new d,fun k hk=>ae hk b.two,fun k hk=>ae hk d.size⟩
theorem nA.below{K:Nat->Prop}{w:Q0}{b:Nat}(h:nA K w w')(d:b<=G (Q w))(hK:∀k,k<b->K k):Q8 b w w':=gR.below h d fun k hk e=>e (hK k hk)
theorem nA.at{K:Nat->Prop}{w:Q0}(h:nA K w w'){b:Nat}{o:Obj}(hK:K b)(d:w.heap[b]?=N o):w'.heap[b]?=N o:=gR.at h (fun e=>e hK) d
variable (K:Nat->Prop) (X:Nat) (H:gA) (P:Option iM) (p:iM) (w:Q0)
theorem yl(h:pY w K X H P):Rg prog 48 #[Q5 (N ⟨X,0,J⟩)] w fun e w'=>e=Ra (Rh P.isSome)/\w'=w:=by obtain⟨⟨M,h1,-⟩,-⟩:=h;exact OB M X H P w h1
theorem ym(h:pY w K X H (N p)):Rg prog 40 #[Q5 (N ⟨X,0,J⟩)] w fun e w'=>e=Ra (I Re (p.a.V:Nat))/\w'=w:=by obtain⟨⟨M,h1,-⟩,-⟩:=h;exact EH M X H p w h1
theorem Mm(h:pY w K X H (N p))(b:p.a.mN):Rg prog 80 #[Q5 (N ⟨X,0,J⟩)] w fun e w'=>e=Ra (Km p.a.next.2)/\pY w' K X H (N {p with a:=p.a.next.1})/\nA K w w':=by obtain⟨M,h1,d⟩:=h.kQ;refine(Lh M X H p w h1 b).mono ?_;rintro e w' ⟨i,j⟩;exact⟨i,h.oK d j⟩
theorem yk(frame:gw)(h:pY w K X H (N p))(d:Mq n l B H p)(hl:O frame<=1000000):Rg prog 27 #[Q5 (N ⟨X,0,J⟩),Q7 ⟨Rm frame⟩] w fun e w'=>e=Ra (Rc #[])/\pY w' K X (mn H p frame).1 (N (mn H p frame).2)/\nA K w w':=by obtain⟨M,h1,b⟩:=h.kQ;refine(EF n B X l M H p frame w h1 d hl h.sh h.er (h.two b)).mono ?_;rintro e w' ⟨i,j⟩;exact⟨i,h.oK b j⟩
theorem sO(h:pY w K X H (N p))(b:∀f,p.a.l4=N f->1<=f.1/\f.1<=14/\p.nQ<=100000):Rg prog 41 #[Q5 (N ⟨X,0,J⟩)] w fun e w'=>e=Ra (sH (xy p).1 (xy p).2.1 (xy p).2.2)/\Q8 (G (Q w)) w w':=by obtain⟨M,h1,d⟩:=h.kQ;exact CC M X H p w h1 b h.er
theorem vB(h:pY w K X H P):Rg prog 26 #[Q5 (N ⟨X,0,J⟩)] w fun e w'=>e=Ra (I Y H.il)/\pY w' K X {H with il:=0} P/\nA K w w':=by obtain⟨M,h1,b⟩:=h.kQ;refine(Gj M X H P w h1).mono ?_;rintro e w' ⟨d,i,-⟩;exact⟨d,h.oK b i⟩
theorem vA(h:pY w K X H P):Rg prog 31 #[Q5 (N ⟨X,0,J⟩)] w fun e w'=>∃v,e=Ra v/\gE w' v 1 (O H.dp.iF) (jr H.dp.iF)/\pY w' K X {H with dp:={H.dp with iF:=[]}} P/\nA K w w':=by obtain⟨M,h1,b⟩:=h.kQ;refine(MX M X H P w h1).mono ?_;rintro e w' ⟨v,d,i,j,-⟩;exact⟨v,d,i,h.oK b j⟩
theorem wE:∀(l:List gw) (H:gA) (n f:Nat),(jc l H n).2=N f->f<=n+O l+1
 | [],H,n,f,h=>by cases h
 | s::l,H,n,f,h=>by
  unfold jc at h;have h1:∀g,(H.write n s).2=N g->g=n+2:=fun g b=>by
   unfold gA.write at b;split at b
   .cases b;rfl
   .cases b
  generalize H.write n s=q at h h1;obtain⟨H1,r⟩:=q;cases r with
  | some g=>
   obtain rfl:g=f:=by simpa using h
   have:=h1 g rfl;rw[ao];omega
  | none=>have:=wE l H1 (n+1) f h;rw[ao];omega
theorem uT{H:gA}{g:jP}{at':Nat}{data:gw}(h:(gT H g at' data).2=N f):f<=at'+iw (O data)+1:=by
 unfold gT at h;have h1:=wE (iH (g.gF+1) data) H at';rw[lP]at h1;generalize jc (iH (g.gF+1) data) H at'=q at h h1;obtain⟨H1,r⟩:=q;cases r with
 | some k=>
  obtain rfl:k=f:=by simpa using h
  exact h1 k rfl
 | none=>
  simp only at h;unfold gA.jY at h;split at h
  .cases h;omega
  .split at h<;>cases h
theorem Bo{H:gA}{g:jP}{v:Nat}{T:List E}(h:(iz H g v T).2.2=N f):f<=ik (O H.gG)+iw (kh v T).length+1:=by
 unfold iz at h;have h1:∀f,(gT H g ((1-g.iC)*ik (O H.gG)) (kh v T)).2=N f->f<=(1-g.iC)*ik (O H.gG)+iw (kh v T).length+1:=fun f=>uT;have b:(1-g.iC)*ik (O H.gG)<=ik (O H.gG):=by rcases(show 1-g.iC=0\/1-g.iC=1 by omega)with e|e<;>rw[e]<;>omega
 generalize gT H g ((1-g.iC)*ik (O H.gG)) (kh v T)=q at h h1;obtain⟨H1,r⟩:=q;cases r with
 | some k=>
  obtain rfl:k=f:=by simpa [IS]using h
  have:=h1 k rfl;omega
 | none=>cases h
theorem Bw{H:gA}{g:jP}{b:gw}(h:(jk H g b).2.2=N f):f<=g.next+iw (O b)+1:=by
 unfold jk at h;have h1:∀f,(gT H g g.next b).2=N f->f<=g.next+iw (O b)+1:=fun f=>uT;generalize gT H g g.next b=q at h h1;obtain⟨H1,r⟩:=q;cases r with
 | some k=>
  obtain rfl:k=f:=by simpa [uW]using h
  exact h1 k rfl
 | none=>cases h
theorem L9{H:gA}{P:iM}(i:nm n l B H)(o:qP n l H P)(C:Ax P tk)(b:P.a.mN)(D:tk.V<18446744073709551615):
  (nz H P tk).2.a.mN/\∀f,(nz H P tk).2.a.l4=N f->1<=f.1/\f.1<=14/\(nz H P tk).2.nQ<=100000:=by
 have s:∀(a:iy) (f:Nat×Nat),(a.jZ f).l4=N f:=fun a f=>(lN {a with l4:=N f} 18 [UInt8.ofNat f.1]).1;unfold nz;cases hl:jG (tk.T P.a.T) H.dp.room (O H.gG) with
 | some f=>
  simp only;refine⟨b.jZ f,fun g d=>?_⟩;rw[s]at d;cases d;unfold jG at hl;split at hl
  .cases hl;exact⟨by show 1<=10;omega,by show 10<=14;omega,by show 0<=_;omega⟩
  .split at hl
   .cases hl;exact⟨by show 1<=11;omega,by show 11<=14;omega,by show 0<=_;omega⟩
   .cases hl
 | none=>
  simp only;rw[i.dp.room,i.len]at hl;obtain⟨x,-⟩:=C.jh o hl;have y:=i.ok.n;rw[i.len]at y;have M:=mg y.1 y.2;have u:∀(v:Nat) (T:List E),jw T<=16*(n-8)->iw (kh v T).length<=ik n:=fun v T h=>qG (by rw[rz];omega);have key:∀f,(tk.iF H P).2.2=N f->f<=100000:=by
   intro f h;cases tk with
   | nG v T=>have h1:=Bo h;rw[i.len]at h1;have:=u v T x.size;omega
   | delta v os=>
    have j:(jH H P.lg (tS v os) P.a.V P.a.T).2.2=N f:=h;have F:(tS v os).length<=700:=C.2.2.2.2.1;have R:iw (tS v os).length<=14:=by unfold iw;omega
    have S:=o.tB.next;unfold jH at j;split at j
    .have h1:∀f,(iz H P.lg P.a.V P.a.T).2.2=N f->f<=ik (O H.gG)+iw (kh P.a.V P.a.T).length+1:=fun f=>Bo;have m:(iz H P.lg P.a.V P.a.T).2.2=J->(iz H P.lg P.a.V P.a.T).2.1.next=2*ik (O H.gG):=by
      unfold iz;generalize gT H P.lg ((1-P.lg.iC)*ik (O H.gG)) (kh P.a.V P.a.T)=q;obtain⟨H1,r⟩:=q;cases r with
      | some f=>intro e;cases e
      | none=>intro _;rfl
     have U:=u P.a.V P.a.T o.jh.size;rw[i.len]at h1 m;generalize iz H P.lg P.a.V P.a.T=q at j h1 m;obtain⟨H1,g1,r⟩:=q;cases r with
     | some k=>
      obtain rfl:k=f:=by simpa [Ns]using j
      have:=h1 k rfl;omega
     | none=>have W:=Bw (show(jk H1 g1 (tS v os)).2.2=N f from j);have X:g1.next=2*ik n:=m rfl;omega
    .have:=Bw j;omega
  generalize tk.iF H P=q at key;obtain⟨H1,g1,r⟩:=q;cases r with
  | some f=>refine⟨b.jZ _,fun g d=>?_⟩;rw[show(An P tk (H1,g1,N f)).2.a=P.a.jZ (12,0)from rfl,s]at d;cases d;exact⟨by show 1<=12;omega,by show 12<=14;omega,key f rfl⟩
  | none=>refine⟨iy.mN.oO ⟨D,b.out,b.olen,b.me⟩,fun g d=>?_⟩;have h1:(iy.oO {P.a with V:=tk.V,T:=tk.T P.a.T}).l4=P.a.l4:=(lN {P.a with V:=tk.V,T:=tk.T P.a.T} 17 (nC tk.V)).1;have m:(An P tk (H1,g1,J)).2.a=iy.oO {P.a with V:=tk.V,T:=tk.T P.a.T}:=rfl;rw[m,h1,o.l4]at d;cases d
structure kx(n:Nat)(l:List Int)(s B:Nat)(H:gA)(P:Option iM)(a:iy)(maybe:List (Nat×List E))(ever:List E)(armed:Bool):Prop where
 inv:oG n l s H P a maybe ever armed
 nP:nm n l B H
 fit:∀p,P=N p->p.a.mN
 nQ:∀p f,P=N p->p.a.l4=N f->1<=f.1/\f.1<=14/\p.nQ<=100000
theorem kx.n32{H:gA}{P:Option iM}(h:kx n l s B H P a maybe ever armed):32<=n/\n<=128:=by have:=h.nP.ok.n;rw[h.nP.len]at this;exact this
theorem kx.recv{H:gA}{p:iM}(h:kx n l s B H (N p) a maybe ever armed)(m:H.dp.ir=false)(frame:gw){s':Nat}{maybe':List (Nat×List E)}{armed':Bool}(o:P'=N (mn H p frame).2)(x:oG n l s' (mn H p frame).1 P' a' maybe' ever' armed'):kx n l s' (B+1000) (mn H p frame).1 P' a' maybe' ever' armed':=by
 subst o;refine⟨x,h.nP.recv h.inv m frame,?_,?_⟩
 all_goals
  obtain⟨g1,g2,y,g5,g6⟩:=h.inv.up p rfl m;have d:=h.inv.tabs _ h.inv.self;have b:=(h.fit p rfl).taken frame;have i:∀f,p.a.l4=N f->1<=f.1/\f.1<=14/\p.nQ<=100000:=fun f=>h.nQ p f rfl;have key:(mn H p frame).2.a.mN/\∀f,(mn H p frame).2.a.l4=N f->1<=f.1/\f.1<=14/\(mn H p frame).2.nQ<=100000:=by
   unfold mn;rw[g1]at b i⊢;cases j:a.taken frame with
   | mk a1 r=>
    rw[j]at b;cases r with
    | none=>refine⟨b,fun f C=>?_⟩;obtain⟨-,-,D⟩:=xe j;exact i f (by rw[<-D];exact C)
    | some tk=>
     obtain⟨t1,t2,t3,t4,t5,t6⟩:=rT j d.sorted d.mH p.nQ p.lg;obtain⟨u,u2,u3⟩:=g5 t1;have u1:=u.tB;rw[g1,<-t2,<-t3]at u1;have ut:=u.jh;rw[g1,<-t2,<-t3]at ut;refine L9 (P:={p with a:=a1}) h.nP ⟨u1,by rw[t3];exact y,u.room,ut,t4.trans t1⟩ t6 b ?_;cases tk with
     | delta v os=>exact ml t6.2.1
     | nG v T=>exact ml t6.2.1
 .intro q hq;cases hq;exact key.1
 .intro q f hq;cases hq;exact key.2 f
def ke(d:jz):Prop:=d.left=-1/\d.ir=false
theorem ke.stop{d:jz}(h:ke d):ke d.stop:=by
 have:d.stop=d:=by obtain⟨l,b,r,S,g⟩:=d;obtain⟨h1,i⟩:=h;simp only at h1 i;subst h1 i;rfl
 rw[this];exact h
theorem ke.run:∀(os:List wF) {d:jz},ke d->ke (d.run os)
 | [],_,h=>h
 | o::os,d,h=>by
  refine ke.run os (d:=d.step o) ?_;have b:=h.stop;obtain⟨k,v⟩:=o;cases v with
  | none=>unfold jz.step jz.drop;simp only;split<;>exact b
  | some v=>
   unfold jz.step jz.put;simp only;split
   .exact b
   .split<;>exact b
theorem ke.write{H:gA}(h:ke H.dp)(n:Nat)(s:gw):ke (H.write n s).1.dp:=by
 unfold gA.write;split
 .exact h
 .exact h.stop
theorem ke.il:∀(ps:List gw) (H:gA) (n:Nat),ke H.dp->ke (jc ps H n).1.dp
 | [],_,_,h=>h
 | s::ps,H,n,h=>by
  unfold jc;have h1:=h.write n s;generalize H.write n s=q at h1⊢;obtain⟨H1,r⟩:=q;cases r with
  | some f=>exact h1
  | none=>exact ke.il ps H1 (n+1) h1
theorem ke.jY{H:gA}(h:ke H.dp):ke H.jY.1.dp:=by
 unfold gA.jY;split
 .exact h
 .split<;>exact h.stop
theorem ke.gT{H:gA}(h:ke H.dp)(g:jP)(n:Nat)(b:gw):ke (gT H g n b).1.dp:=by
 unfold _root_.Go.Proofs.YtkkfmkhbdoeglabGreatDoor.gT;have h1:=ke.il (iH (g.gF+1) b) H n h;generalize jc (iH (g.gF+1) b) H n=q at h1⊢;obtain⟨H1,r⟩:=q;cases r with
 | some f=>exact h1
 | none=>exact h1.jY
theorem ke.iz{H:gA}(h:ke H.dp)(g:jP)(v:Nat)(T:List E):ke (iz H g v T).1.dp:=by
 unfold _root_.Go.Proofs.YtkkfmkhbdoeglabGreatDoor.iz;have h1:=h.gT g ((1-g.iC)*ik (O H.gG)) (kh v T);generalize _root_.Go.Proofs.YtkkfmkhbdoeglabGreatDoor.gT H g ((1-g.iC)*ik (O H.gG)) (kh v T)=q at h1⊢;obtain⟨H1,r⟩:=q;cases r with
 | some f=>exact h1
 | none=>exact h1
theorem ke.jk{H:gA}(h:ke H.dp)(g:jP)(b:gw):ke (jk H g b).1.dp:=by
 unfold _root_.Go.Proofs.YtkkfmkhbdoeglabGreatDoor.jk;have h1:=h.gT g g.next b;generalize _root_.Go.Proofs.YtkkfmkhbdoeglabGreatDoor.gT H g g.next b=q at h1⊢;obtain⟨H1,r⟩:=q;cases r with
 | some f=>exact h1
 | none=>exact h1
theorem ke.jH{H:gA}(h:ke H.dp)(g:jP)(b:gw)(v:Nat)(T:List E):ke (jH H g b v T).1.dp:=by
 unfold _root_.Go.Proofs.YtkkfmkhbdoeglabGreatDoor.jH;split
 .have h1:=h.iz g v T;generalize _root_.Go.Proofs.YtkkfmkhbdoeglabGreatDoor.iz H g v T=q at h1⊢;obtain⟨H1,g1,r⟩:=q;cases r with
  | some f=>exact h1
  | none=>exact ke.jk (H:=H1) h1 g1 b
 .exact h.jk g b
theorem ke.jO{H:gA}(h:ke H.dp)(p:iM)(tk:iV):ke (nz H p tk).1.dp:=by
 unfold nz;split
 .exact h
 .have h1:ke (tk.iF H p).1.dp:=by
   cases tk with
   | delta v os=>exact h.jH _ _ _ _
   | nG v T=>exact h.iz _ _ _
  generalize tk.iF H p=q at h1⊢;obtain⟨H1,g1,r⟩:=q;cases r with
  | some f=>exact h1
  | none=>exact ke.run _ h1
theorem ke.recv{H:gA}(h:ke H.dp)(p:iM)(frame:gw):ke (mn H p frame).1.dp:=by
 unfold mn;split
 .exact h
 .exact h.jO _ _
theorem ke.start{H:gA}(h:ke H.dp):ke (j7 H).1.dp:=by
 unfold j7 ja;split
 .rename_i H1 f he;split at he
  .cases he;exact h
  .cases he
 .rename_i H1 he;have h1:ke H1.dp:=by
   split at he
   .cases he
   .cases he;exact h
  simp only;split
  .exact h1
  .exact ke.run _ h1
theorem Lr(a:iy):a.next.1.V=a.V/\a.next.1.T=a.T/\a.next.1.l4=a.l4:=by unfold iy.next;split<;>exact⟨rfl,rfl,rfl⟩
theorem kx.own{H:gA}{p:iM}(h:kx n l s B H (N p) a maybe ever armed)(h1:a1.V=a.V)(d:a1.T=a.T)(b:a1.l4=a.l4)(i:p.a.l4=a.l4)(j:a1.mN):kx n l s B H (N {p with a:=a1}) a1 maybe ever armed:=
 ⟨h.inv.own h1 d b,h.nP,fun q hq=>by cases hq;exact j,fun q f hq m=>by cases hq;exact h.nQ p f rfl (by rw[i,<-b];exact m)⟩
theorem kx.oK{H:gA}{P:Option iM}(h:kx n l s B H P a maybe ever armed)(k d b:Int)(lg:List gw)(armed':Bool)(ha:0<=b->armed'=true)(hk:0<=k/\k<=B)(h1:-1<=d/\d<=9223372036854775807)(i:-1<=b/\b<=9223372036854775807)(j:O lg<=B):
  kx n l s B {H with il:=k,fail:=b,dp:={H.dp with left:=d,iF:=lg}} P a maybe ever armed':=⟨h.inv.oK k d b lg armed' ha,h.nP.oK k d b lg hk h1 i j,h.fit,h.nQ⟩
theorem kx.mono{t C:Nat}{H:gA}{P:Option iM}(h:kx n l s B H P a maybe ever armed)(b:s<=t)(d:B<=C)(he:∀x∈ever,x∈ever'):kx n l t C H P a maybe ever' armed:=⟨h.inv.mono b he,h.nP.mono d,h.fit,h.nQ⟩
theorem kx.begun(n:Nat)(l:List Int)(i:32<=n/\n<=128):
  ∃H' p,j7 (rX n (gY l))=(H',.inl p)/\p.a=lE 0 []/\H'.dp.ir=false/\H'.dp.left=-1/\H'.dp.iF=[]/\kx n l 0 480 H' (N p) (lE 0 []) [(0,[])] [] false:=by
 obtain⟨H',p,h1,j,o,r,s⟩:=oG.begun n l i;have b:=(nm.new n l i).start (DK n l i);have d:ke (j7 (rX n (gY l))).1.dp:=ke.start (H:=rX n (gY l)) ⟨rfl,rfl⟩;rw[h1]at b d;refine⟨H',p,h1,j,o,d.1,r,s,b.mono (by omega),fun q hq=>?_,fun q f hq m=>?_⟩
 .cases hq;rw[j];exact iy.mN.begun 0 [] (by omega)
 .cases hq;rw[j,(nh 0 []).2.2]at m;cases m
structure uG(n:Nat)(l:List Int)(s B:Nat)(H:gA)(P:Option iM)(a:iy)(maybe:List (Nat×List E))(ever:List E)(armed:Bool):Prop where
 st:kx n l s B H P a maybe ever armed
 iF:P.isSome=true->H.dp.ir=false->H.dp.iF=[]
 evl:O ever<=60*s
 B:B<=480+1000*s
theorem kx.clean{H:gA}{P:Option iM}(h:kx n l s B H P a maybe ever armed):kx n l s B {H with dp:={H.dp with iF:=[]}} P a maybe ever armed:=
 h.oK H.il H.dp.left H.fail [] armed h.inv.arm h.nP.ok.il h.nP.dp.left h.nP.ok.fail ux
theorem kx.uX{H:gA}{P:Option iM}(h:kx n l s B H P a maybe ever armed):kx n l s B {H with il:=0} P a maybe ever armed:=
 h.oK 0 H.dp.left H.fail H.dp.iF armed h.inv.arm ⟨Int.le_refl _,by omega⟩ h.nP.dp.left h.nP.ok.fail h.nP.dp.iF
theorem uG.uX{H:gA}{P:Option iM}(h:uG n l s B H P a maybe ever armed):uG n l s B {H with il:=0} P a maybe ever armed:=⟨h.st.uX,h.iF,h.evl,h.B⟩
theorem uG.up{H:gA}{p:iM}(h:uG n l s B H (N p) a maybe ever armed)(b:H.dp.ir=false):p.a=a/\H.dp.S=a.T/\a.mN/\(∀f,a.l4=N f->1<=f.1/\f.1<=14/\p.nQ<=100000/\(f.1=12↔1<=p.nQ))/\(a.l4=J->p.nQ=0/\maybe=[(a.V,a.T)])/\ng n (gY l) a.V a.T:=by obtain⟨g1,g2,d,g5,g6⟩:=h.st.inv.up p rfl b;subst g1;exact⟨rfl,d,h.st.fit p rfl,fun f e=>⟨(h.st.nQ p f rfl e).1,(h.st.nQ p f rfl e).2.1,(h.st.nQ p f rfl e).2.2,g6 f e⟩,fun e=>⟨(g5 e).2.2,(g5 e).2.1⟩,h.st.inv.tabs _ h.st.inv.self⟩
theorem uG.ready{H:gA}{p:iM}(h:uG n l s B H (N p) a maybe ever armed)(b:H.dp.ir=false)(d:s<=100000):Mq n l B H p:=by obtain⟨g1,g2,i,g5,g6⟩:=h.st.inv.up p rfl b;exact⟨h.st.nP,by have:=h.B;omega,h.st.fit p rfl,fun e=>(g5 (by rw[<-g1];exact e)).1,by omega⟩
structure Ej(a1:iy)(tk:iV):Prop where
 v:tk.V<18446744073709551615
 iS:∀m os,tk=.delta m os->O os<=8/\∀o∈os,o.kind=1\/o.kind=2
 mH:∀x∈tk.T a1.T,jB x
 len:(tk.T a1.T).length<=66000
theorem jB.short{x:E}(h:jB x):O x.1.2<=6/\O x.2<=6:=by
 obtain⟨g0,g2,i,g4⟩:=h;have b:=mj i;have d:=lD g0 g2 g4;unfold gL at b;unfold iu at d;constructor
 .rw[b];split<;>(try split)<;>omega
 .rw[d];split<;>(try split)<;>omega
theorem JJ{frame:gw}(h:a.taken frame=(a1,N tk))(q:gM a.T)(r:∀x∈a.T,jB x)(hl:O a.T<=120):Ej a1 tk:=by
 unfold iy.taken at h;split at h
 .cases h
 .split at h
  .cases h
  .split at h
   .unfold iy.delta at h;split at h
    .cases h
    .rename_i v os b;split at h
     .cases h
     .split at h
      .cases h
      .cases h;rw[qD]at b;obtain⟨d,he⟩:=xz _ _ _ b;have i:ij v=true:=by
        unfold lF at d;split at d
        .cases d
        .rename_i i;simpa using i
       have j:=(⟨aq _,q,r⟩:lG (O a.T) a.T).fold d;refine⟨ml i,fun m l e=>?_,j.mH,?_⟩
       .cases e;exact⟨(qq d).1,fun o s=>((qq d).2 o s).1⟩
       .have:=j.len;show(iO a.T os).length<=_;omega
   .split at h
    .cases h
    .split at h
     .cases h
     .split at h
      .unfold iy.piece at h;split at h
       .cases h
       .split at h
        .cases h
        .split at h
         .cases h
         .split at h
          .cases h
          .split at h
           .cases h
           .unfold iy.mV at h;split at h
            .cases h
            .rename_i v T b;split at h
             .cases h
             .split at h
              .cases h
              .cases h;exact⟨ml (py b).1,fun m l e=>(by cases e),(py b).2.1,by have:=(sd b).1;show(O T)<=_;omega⟩
      .cases h
structure Qv(n:Nat)(l:List Int)(s B:Nat)(H:gA)(p:iM)(a1 b:iy)(done:List gw)(ever:List E)(armed:Bool)(H':gA)(p':iM):Prop where
 full:∀f,b.l4=N f->H'=H/\p'.a=b/\done=[]/\uG n l (s+2) B H' (N p') b [(b.V,b.T)] ever armed
 ir:b.l4=J->H'.dp.ir=true->uG n l (s+2) (B+1000) H' (N p') a1 [(a1.V,a1.T),(b.V,b.T)] (ever++b.T) armed
 up:b.l4=J->H'.dp.ir=false->
  (p'.a=b/\p'.nQ=0/\H'.dp.iF=done/\uG n l (s+2) (B+1000) {H' with dp:={H'.dp with iF:=[]}} (N p') b [(b.V,b.T)] (ever++b.T) armed)\/
  (p'.a=a1.jZ (12,0)/\1<=p'.nQ/\armed=true/\H'.dp.iF=[]/\uG n l (s+2) (B+1000) H' (N p') (a1.jZ (12,0)) [(a1.V,a1.T),(b.V,b.T)] (ever++b.T) armed)
theorem Lc{H:gA}{p:iM}{frame:gw}(h:uG n l s B H (N p) a maybe ever armed)(d:H.dp.ir=false)(b:a.taken frame=(a1,J)):
  mn H p frame=(H,{p with a:=a1})/\uG n l (s+2) B H (N {p with a:=a1}) a1 maybe ever armed/\a1.V=a.V/\a1.T=a.T:=by
 obtain⟨g1,g2⟩:=h.st.inv.Mx d b;obtain⟨h1,i,m⟩:=xe b;obtain⟨u1,u2,u3,-⟩:=h.up d;have j:=u3.taken frame;rw[b]at j;have:=h.evl;have:=h.B;exact⟨g1,⟨(h.st.own h1 i m (by rw[u1]) j).mono (by omega) gH fun _ h=>h,h.iF,by omega,by omega⟩,h1,i⟩
theorem Ld{H:gA}{p:iM}{frame:gw}(h:uG n l s B H (N p) a maybe ever armed)(o:H.dp.ir=false)(hs:s<=100000)(q:a.taken frame=(a1,N tk)):
  a1.V=a.V/\a1.T=a.T/\a1.out=a.out/\a1.l4=J/\a1.mN/\Ej a1 tk/\Qv n l s B H p a1 (a1.jO tk (gY l) n) (a1.done tk (gY l) n) ever armed (mn H p frame).1 (mn H p frame).2:=by
 obtain⟨u1,u2,u3,u4,u5,u6⟩:=h.up o;have Z:=h.st.n32;obtain⟨t1,t2,t3,t4,t5,t6⟩:=rT q u6.sorted u6.mH p.nQ p.lg;obtain⟨u7,u8⟩:=u5 t1;have i:=h.iF rfl o;have U:=u3.taken frame;rw[q]at U;have aa:=h.evl;have hB:=h.B;refine⟨t2,t3,t5,t4.trans t1,U,JJ q u6.sorted u6.mH u6.len,?_⟩;cases hl:jG (tk.T a1.T) (gY l) n with
 | some f=>
  obtain⟨r1,r2,C,u⟩:=h.st.inv.full o q hl;have D:(a1.jZ f).l4=N f:=(lN {a1 with l4:=N f} 18 [UInt8.ofNat f.1]).1;have hV:(a1.jZ f).V=a1.V:=(lN {a1 with l4:=N f} 18 [UInt8.ofNat f.1]).2.1;have d:(a1.jZ f).T=a1.T:=(lN {a1 with l4:=N f} 18 [UInt8.ofNat f.1]).2.2;have m:=h.st.recv o frame (P':=N (mn H p frame).2) rfl (s':=s) (a':=a1.jZ f) (maybe':=maybe) (ever':=ever) (armed':=armed) (by rw[r1];exact u);rw[r1]at m⊢;rw[r2];have W:maybe=[((a1.jZ f).V,(a1.jZ f).T)]:=by rw[hV,d,t2,t3];exact u8
  refine⟨fun g hg=>⟨rfl,rfl,C,⟨?_,h.iF,by omega,by omega⟩⟩,fun e=>(by rw[D]at e;cases e),fun e=>(by rw[D]at e;cases e)⟩;rw[<-W];exact⟨u.mono (by omega) fun _ h=>h,h.st.nP,m.fit,m.nQ⟩
 | none=>
  obtain⟨H',p',r1,r2,C,u⟩:=h.st.inv.jO Z (by omega) o q hl (ever':=ever++tk.T a1.T) (fun x hx=>bQ.2 hx);have d:(a1.jO tk (gY l) n).T=tk.T a1.T:=by
   have:a1.jO tk (gY l) n=iy.oO {a1 with V:=tk.V,T:=tk.T a1.T}:=by unfold iy.jO;rw[hl]
   rw[this];exact(lN {a1 with V:=tk.V,T:=tk.T a1.T} 17 (nC tk.V)).2.2
  have al:(tk.T a1.T).length<=120:=by
   have m:=h.st.inv;have F:ng n (gY l) (a1.jO tk (gY l) n).V (a1.jO tk (gY l) n).T:=by
    cases hdd:H'.dp.ir with
    | true=>exact(C hdd).1.tabs _ (aR _ (ay.2 rfl))
    | false=>
     rcases u hdd with r|r
     .exact r.2.2.2.tabs _ (ay.2 rfl)
     .exact r.2.2.2.2.tabs _ (aR _ (ay.2 rfl))
   have:=F.len;rw[d]at this;exact this
  have b:(ever++tk.T a1.T).length<=60*(s+2):=by rw[ab];omega
  rw[r1];have j:∀{s':Nat} {a':iy} {maybe':List (Nat×List E)} {ever':List E} {armed':Bool},oG n l s' H' (N p') a' maybe' ever' armed'->kx n l s' (B+1000) H' (N p') a' maybe' ever' armed':=fun {s' a' maybe' ever' armed'} hw=>by have:=h.st.recv o frame (P':=N (mn H p frame).2) rfl (s':=s') (a':=a') (maybe':=maybe') (ever':=ever') (armed':=armed') (by rw[r1];exact hw);rw[r1]at this;exact this
  refine⟨fun f e=>(by rw[r2]at e;cases e),fun _ hdd=>(by rw[d];exact⟨j (by have:=(C hdd).1;rw[d]at this;exact this),fun _ e=>(by rw[hdd]at e;cases e),b,by omega⟩),fun _ hdd=>?_⟩;rw[d];rcases u hdd with ⟨M,R,S,y⟩|⟨M,R,S,y,X⟩
  .left;rw[d]at y;exact⟨M,R,by rw[S,i,aQ],⟨(j y).clean,fun _ _=>rfl,b,by omega⟩⟩
  .right;rw[d]at X;exact⟨M,R,S,y.trans i,⟨j X,fun _ _=>y.trans i,b,by omega⟩⟩
theorem Ij{w:Q0}{e:Ri}(h:gQ w v e)(i:∀b,Rl v=N b->b<G (Q w))(j:Q8 (G (Q w)) w w'):gQ w' v e:=fun b d=>by obtain⟨C,l,m⟩:=h b d;exact⟨C,l,gC j (i b d) m⟩
structure nM(w:Q0)(base:Nat)(v:Q4)(l:List gw):Prop where
 own:gS w base 1 v (O l) (jr l)
 typ:gQ w v 9
theorem nM.nil(w:Q0)(base:Nat):nM w base (Q6 J 0 0) []:=⟨gS.nil _ _ _,gQ.nil _ _⟩
theorem nM.below{w:Q0}{base:Nat}{l:List gw}(h:nM w base v l)(d:Q8 (G (Q w)) w w'):nM w' base v l:=
 ⟨h.own.below d,Ij h.typ (fun b e=>gS.iA h.own b e) d⟩
theorem vP{w:Q0}{b:Nat}{s:gw}(h:w.heap[b]?=N (Q1 #[Q7 ⟨Rm s⟩] 9 (0,0))):gE w (Q6 (N ⟨b,0,J⟩) 1 1) 1 1 (jr [s]):=by
 refine⟨rfl,_,1,rfl,aq _,fun i d=>⟨_,0,rfl,?_⟩⟩;obtain rfl:i=0:=by simp[jr]at d;omega
 exact gr 0 h
theorem pA(w:Q0)(o o':Obj):((Ro w o).alloc o').heap[G (Q w)+1]?=N o':=by
 have:=gB (Ro w o) o'
 rwa [aj]at this
theorem Cl{o:Oper}{a:Act}{K:Act->Q0->Prop}{w i:Q0}(s x:Operand)(C:o.op=.call {callee:=.builtin .append,args:=#[s,x],argTypes:=#[28,28]})(base:Nat)(v:Q4)(n:Nat)(l:List gw)(_D:n=O l)(E:a.eval s=v)(r:nM i base v l)(j:Q8 (G (Q i)) i w)(m:gw)(F:gE w (a.eval x) 1 1 (jr [m]))(M:O l+1<=8796093022208)(d:base<=G (Q i))(h:∀v' w',nM w' base v' (l++[m])->Q8 base i w'->K (a.put o.dst v') w'):o.wp prog a w K b:=by subst _D;have u:=r.below j;obtain⟨i0,R,y,q,B⟩:=dE Aj;have hmx:maxLen=9223372036854775807:=rfl;refine lL s x _ _ C base 1 9 i0 (Q7 ⟨#[]⟩) underlying28 R y q (by rw[q];rfl) (by omega) v (O l) (jr l) E u.own u.typ 1 (jr [m]) (gE.src underlying28 F (vQ [m])) (by omega) (by rw[B];omega) (au d j.size) (fun v' w' h1 S U V=>?_);rw[<-ny]at h1;exact h v' w' ⟨by simpa using h1,U⟩ ((j.mono d).trans (jF u.own S (au d j.size)))
theorem tz{iS:Array Oper}{o:Oper}{a:Act}{K:Act->Q0->Prop}{X:Prop}{w d:Q0}(r:o.guard=J)(s x:Operand)(u:o.op=.call {callee:=.builtin .append,args:=#[s,x],argTypes:=#[28,28]})(base:Nat)(v:Q4)(n:Nat)(l:List gw)(y:n=O l)(B:a.eval s=v)(j:nM d base v l)(C:Q8 (G (Q d)) d w)(m:gw)(D:gE w (a.eval x) 1 1 (jr [m]))(q:O l+1<=8796093022208)(i:base<=G (Q d))(h:∀v' w',nM w' base v' (l++[m])->Q8 base d w'->K (a.put o.dst v') w'):if Region.wanted o (yielded iS a.tmps)=true then Oper.wp prog o a w K b else X:=by
 have E:Region.wanted o (yielded iS a.tmps)=true:=by simp[Region.wanted,r]
 rw[aw E];exact Cl s x u base v n l y B j C m D q i h
theorem wZ(l:gw)(w:Q0)(hl:O l<=im+1):
  Rg prog 69 #[Q7 ⟨Rm l⟩] w fun e w'=>e=Ra (Q7 ⟨(yX (Cp l)).toArray⟩)/\Q8 (G (Q w)) w w':=by
 have M:O l<=9223372036854775000:=by unfold im at hl;omega
 go_enter func69,ntmps69;go_wp2;go_loop [3,4,5] (fun c i _=>∃k:Nat,k<=O l/\i=I Y k/\c=I .u32 (nT 4294967295 (l.take k))) (fun _ i _=>O l-(intOf i).toNat)
 case atStart=>exact⟨0,by omega,rfl,by simp[nT]⟩
 case round=>
  obtain⟨k,hk,rfl,rfl⟩:=hrel;have b:=wL (l.take k) 4294967295 (by decide);by_cases h:k<O l
  .have H:=gj (xw 4294967295 l k h);have R:=l[k].toNat_lt;generalize nT 4294967295 (l.take k)=c at *
   have C:c ^^^ l[k].toNat<4294967296:=fc (n:=32) (by omega) (by omega);have r:bits BinOp.xor IntKind.u32 (c:Int) (l[k].toNat:Int)=((c ^^^ l[k].toNat:Nat):Int):=u32_xor_nat _ _ b (by omega);have s:∀w,(Instr.index 9 (Q7 ⟨Rm l⟩) (I Y (k:Int))).run prog w=.ok (I Rf l[k].toNat) w:=fun w=>gW underlying9 l _ k l[k] (by omega) (by simp[h]) w;go_wp2;generalize u:c ^^^ l[k].toNat=d at *
   have S:=gj u;clear u r s;go_loop [3,5] (fun c j=>∃m:Nat,m<=8/\j=I Y m/\c=I .u32 (nl m d)) (fun _ j=>8-(intOf j).toNat)
   case atStart=>exact⟨0,by omega,rfl,rfl⟩
   case round=>
    obtain⟨m,hm,rfl,rfl⟩:=hrel;by_cases U:m<8
    .have D:=ye m d C;have x:nl (m+1) d=rS (nl m d):=rfl;have y:=gj x;clear x;generalize nl m d=e at *
     have r:bits BinOp.xor IntKind.u32 ((e:Int) / 2) 3988292384=(((e / 2) ^^^ 3988292384:Nat):Int):=by rw[show(3988292384:Int)=((3988292384:Nat):Int)from rfl,show((e:Int) / 2)=((e / 2:Nat):Int) by omega,u32_xor_nat (e / 2) _ (by omega) (by decide)]
     by_cases B:e%2=1
     .have E:((e:Int)%2==1)=true:=by rw[aT];omega
      go_wp2;go_round
      case rel=>exact⟨m+1,by omega,by go_num,by rw[y.o,rS,aw B]⟩
      case measure=>simp[intOf];omega
     .have E:((e:Int)%2==1)=false:=by rw[ar];omega
      go_wp2;go_round
      case rel=>exact⟨m+1,by omega,by go_num,by rw[y.o,rS,af B];go_num⟩
      case measure=>simp[intOf];omega
    .obtain rfl:m=8:=by omega
     go_wp2;go_round
     case rel=>exact⟨k+1,by omega,by go_num,by rw[H.o]⟩
     case measure=>simp[intOf];omega
  .obtain rfl:k=O l:=by omega
   rw[aM]at *
   have r:bits BinOp.xor IntKind.u32 (nT 4294967295 l:Int) 4294967295=(Cp l:Int):=by rw[show(4294967295:Int)=((4294967295:Nat):Int)from rfl,u32_xor_nat _ _ b (by decide)];rfl
   have hc:=Ev l;generalize q:Cp l=c at *
   have F:=gj q;clear q;go_wp2_with (refine iL rfl (.tmp 43) rfl (yX c) (Mz _ c hc) ?_);go_ret;exact⟨by rw[F.o];rfl,(gJ w).alloc gH _⟩
theorem I9(w:Q0)(k:UInt8):gI (Ro w (Q1 #[I Rf (k.toNat:Int)] 5)) (Q6 (N ⟨G (Q w),0,J⟩) 1 1) [k]:=
 (gS.new w #[I Rf (k.toNat:Int)] 5 0 0 0 1 1 1 ux (by omega) (by decide) (by simp) (.inl (by omega))).bytes (l:=[k])
theorem pB(kind:Int)(l:gw)(w:Q0)(hl:O l<=im):
  Rg prog 28 #[I Y kind,Q7 ⟨Rm l⟩] w fun e w'=>e=Ra (Q7 ⟨(vh (byteOf kind) l).toArray⟩)/\Q8 (G (Q w)) w w':=by
 have d:=gj (pJ kind);have i:O l<=9223372036854775000:=by unfold im at hl;omega
 go_enter func28,ntmps28
 go_wp2_with (first
  | (rw[<-d.o];refine iL rfl (.tmp 8) rfl [byteOf kind] (I9 _ _) ?_)
  | (refine lh rfl (.tmp 9) (.tmp 10) rfl [byteOf kind] l rfl rfl (by simp;omega) ?_)
  | (refine lh rfl (.tmp 12) (.tmp 14) rfl (byteOf kind::l) (yX (Cp (byteOf kind::l))) rfl rfl (by simp;omega) ?_)
  | (go_at_call 69;refine(wZ (byteOf kind::l) _ (by simp;omega)).mono ?_;rintro e w2 ⟨rfl,b⟩))
 go_ret;exact⟨rfl,((gJ w).alloc gH _).trans (b.mono (by simp))⟩
def rP(l:gw):Q4:=
 match lQ l with
 | .inl (k,p)=>Rc #[I Y k.toNat,Q7 ⟨Rm p⟩,Q9 #[I Y 0,I Y 0]]
 | .inr (k,n)=>Rc #[I Y 0,Q7 ⟨[].toArray⟩,Q9 #[I Y k,I Y n]]
theorem zT(l:gw)(w:Q0)(hl:O l<5):
  Rg prog 71 #[Q7 ⟨Rm l⟩] w fun e w'=>e=Ra (Rc #[I Y 0,Q7 ⟨[].toArray⟩,Q9 #[I Y 1,I Y (O l)]])/\Q8 (G (Q w)) w w':=by
 go_enter func71,ntmps71;go_wp2;refine ai (v:=Rc #[I Y 0,Q7 ⟨[].toArray⟩,Q9 #[I Y 1,I Y (O l)]]) (by simp[results,results71,go_sem]) rfl ⟨rfl,?_⟩;exact(gJ w).alloc gH _
theorem BQ(k:UInt8)(p:gw)(a b c d:UInt8)(w:Q0)(hl:O p<=im)(o:Cp (k::p)=j5 a b c d):
  Rg prog 71 #[Q7 ⟨(k::p++[a,b,c,d]).toArray⟩] w fun e w'=>e=Ra (Rc #[I Y k.toNat,Q7 ⟨Rm p⟩,Q9 #[I Y 0,I Y 0]])/\Q8 (G (Q w)) w w':=by
 have x:O p<=9223372036854775000:=by unfold im at hl;omega
 obtain⟨n,m⟩:∃n,n=O p+1:=⟨_,rfl⟩;have l:(k::p++[a,b,c,d]).length=n+4:=by simp;omega
 have hk:=k.toNat_lt;have y:IntKind.i64.wrap (k.toNat:Int)=(k.toNat:Int):=IntWalk.i64_in _ (by omega);have hq:(yX (Cp (k::p))==[a,b,c,d])=true:=by rw[aT];exact(Er _ (Ev _) a b c d).2 o
 have B:∀w,(Instr.slice 9 (Q7 ⟨(k::p++[a,b,c,d]).toArray⟩) J (N (I Y (n:Int))) J).run prog w=.ok (Q7 ⟨(k::p).toArray⟩) w:=fun w=>by rw[xd underlying9 _ _ n (by omega) (by rw[l];omega),cj,m,show(O p)+1=(k::p).length from rfl,eE]
 have C:∀w,(Instr.slice 9 (Q7 ⟨(k::p++[a,b,c,d]).toArray⟩) (N (I Y (n:Int))) J J).run prog w=.ok (Q7 ⟨[a,b,c,d].toArray⟩) w:=fun w=>by rw[xZ underlying9 _ _ n (by omega) (by rw[l];omega),cj,m,show(O p)+1=(k::p).length from rfl,fw]
 have D:∀w,(Instr.slice 9 (Q7 ⟨(k::p++[a,b,c,d]).toArray⟩) (N (I Y 1)) (N (I Y (n:Int))) J).run prog w=.ok (Q7 ⟨Rm p⟩) w:=fun w=>by rw[oJ underlying9 _ _ _ 1 n (by omega) (by omega) (by rw[l];omega),cj,m,show((1:Int).toNat)=1 from rfl,Nat.add_sub_cancel,aV,cN,bC,eE]
 have E:∀w,(Instr.index 9 (Q7 ⟨(k::p++[a,b,c,d]).toArray⟩) (I Y 0)).run prog w=.ok (I Rf k.toNat) w:=fun w=>gW underlying9 _ _ 0 k (by decide) rfl w;have n1:1<=n:=by omega
 have n2:n<=9223372036854775001:=by omega
 have R:=gj m;clear m;clear o;generalize q:k::p++[a,b,c,d]=L at *
 have S:=gj q;clear q;go_enter func71,ntmps71;go_wp2
 go_region_held3 (fun w'=>True) (trivial)
  ((go_at_call 69;refine(wZ (k::p) _ (by simp;omega)).mono ?_;rintro e w2 ⟨rfl,i⟩))
 go_wp2;have j:w2.heap[G (Q w)]?=N (Q1 #[I Y 0,I Y 0] 31 (0,0)):=gC i (by simp) (by exact gB w (Q1 #[I Y 0,I Y 0] 31));have r:Rn w2 ⟨G (Q w),0,J⟩=N (I Y 0):=gr 0 j;have s:Rn w2 ⟨G (Q w),1,J⟩=N (I Y 0):=gr 1 j;have F:=gD 0 j;have M:=gD 1 j;clear j;go_region_held3 (fun w'=>True) (trivial) (fail);go_wp2;refine ai (v:=Rc #[I Y k.toNat,Q7 ⟨Rm p⟩,Q9 #[I Y 0,I Y 0]]) (by simp[results,results71,go_sem,r,s]) rfl ⟨rfl,?_⟩;have u:Q8 (G (Q w)) w w2:=((gJ w).alloc gH (Q1 #[I Y 0,I Y 0] 31)).trans (Below.mono ⟨i.os,i.tape,i.output,i.size,i.block⟩ (by simp));exact(u.drew.setCell (p:=⟨G (Q w),0,J⟩) gH _).setCell (p:=⟨G (Q w),1,J⟩) gH _
theorem CW(k:UInt8)(p:gw)(a b c d:UInt8)(w:Q0)(hl:O p<=im)(q:¬Cp (k::p)=j5 a b c d):
  Rg prog 71 #[Q7 ⟨(k::p++[a,b,c,d]).toArray⟩] w fun e w'=>e=Ra (Rc #[I Y 0,Q7 ⟨[].toArray⟩,Q9 #[I Y 3,I Y (O p+1)]])/\Q8 (G (Q w)) w w':=by
 have B:O p<=9223372036854775000:=by unfold im at hl;omega
 obtain⟨n,m⟩:∃n,n=O p+1:=⟨_,rfl⟩;have l:(k::p++[a,b,c,d]).length=n+4:=by simp;omega
 have hk:=k.toNat_lt;have _hkw:IntKind.i64.wrap (k.toNat:Int)=(k.toNat:Int):=IntWalk.i64_in _ (by omega);have hq:(yX (Cp (k::p))==[a,b,c,d])=false:=by rw[ar];exact fun e=>q ((Er _ (Ev _) a b c d).1 e)
 have C:∀w,(Instr.slice 9 (Q7 ⟨(k::p++[a,b,c,d]).toArray⟩) J (N (I Y (n:Int))) J).run prog w=.ok (Q7 ⟨(k::p).toArray⟩) w:=fun w=>by rw[xd underlying9 _ _ n (by omega) (by rw[l];omega),cj,m,show(O p)+1=(k::p).length from rfl,eE]
 have D:∀w,(Instr.slice 9 (Q7 ⟨(k::p++[a,b,c,d]).toArray⟩) (N (I Y (n:Int))) J J).run prog w=.ok (Q7 ⟨[a,b,c,d].toArray⟩) w:=fun w=>by rw[xZ underlying9 _ _ n (by omega) (by rw[l];omega),cj,m,show(O p)+1=(k::p).length from rfl,fw]
 have E:∀w,(Instr.slice 9 (Q7 ⟨(k::p++[a,b,c,d]).toArray⟩) (N (I Y 1)) (N (I Y (n:Int))) J).run prog w=.ok (Q7 ⟨Rm p⟩) w:=fun w=>by rw[oJ underlying9 _ _ _ 1 n (by omega) (by omega) (by rw[l];omega),cj,m,show((1:Int).toNat)=1 from rfl,Nat.add_sub_cancel,aV,cN,bC,eE]
 have _hi0:∀w,(Instr.index 9 (Q7 ⟨(k::p++[a,b,c,d]).toArray⟩) (I Y 0)).run prog w=.ok (I Rf k.toNat) w:=fun w=>gW underlying9 _ _ 0 k (by decide) rfl w;have n1:1<=n:=by omega
 have n2:n<=9223372036854775001:=by omega
 have y:=gj m;clear m;clear q;generalize r:k::p++[a,b,c,d]=L at *
 have R:=gj r;clear r;go_enter func71,ntmps71;go_wp2
 go_region_held3 (fun w'=>True) (trivial)
  ((go_at_call 69;refine(wZ (k::p) _ (by simp;omega)).mono ?_;rintro e w2 ⟨rfl,i⟩;have j:w2.heap[G (Q w)]?=N (Q1 #[I Y 0,I Y 0] 31 (0,0)):=gC i (by simp) (by exact gB w (Q1 #[I Y 0,I Y 0] 31));have s:Rn w2 ⟨G (Q w),0,J⟩=N (I Y 0):=gr 0 j;have u:Rn w2 ⟨G (Q w),1,J⟩=N (I Y 0):=gr 1 j;have F:=gD 0 j;have M:=gD 1 j;clear j))
 go_wp2;refine ai (v:=Rc #[I Y 0,Q7 ⟨[].toArray⟩,Q9 #[I Y 3,I Y n]]) (by simp[results,results71,go_sem,s,u]) rfl ⟨by rw[y.o];rfl,?_⟩;have x:Q8 (G (Q w)) w w2:=((gJ w).alloc gH (Q1 #[I Y 0,I Y 0] 31)).trans (Below.mono ⟨i.os,i.tape,i.output,i.size,i.block⟩ (by simp));exact(x.setCell (p:=⟨G (Q w),0,J⟩) gH _).setCell (p:=⟨G (Q w),1,J⟩) gH _
theorem CV(l:gw)(w:Q0)(hl:O l<=im):
  Rg prog 71 #[Q7 ⟨Rm l⟩] w fun e w'=>e=Ra (rP l)/\Q8 (G (Q w)) w w':=by
 by_cases h:O l<5
 .refine(zT l w h).mono fun e w' ⟨h1,j⟩=>⟨?_,j⟩;unfold rP lQ;rw[aw h];exact h1
 .obtain⟨k,p,a,b,c,d,rfl⟩:=vp l h;have m:O p<=im:=by simp at hl;omega
  by_cases i:Cp (k::p)=j5 a b c d
  .refine(BQ k p a b c d w m i).mono fun e w' ⟨h1,j⟩=>⟨?_,j⟩;unfold rP;rw[pU,aw i];exact h1
  .refine(CW k p a b c d w m i).mono fun e w' ⟨h1,j⟩=>⟨?_,j⟩;unfold rP;rw[pU,af i];exact h1
theorem zX{iS:Array Oper}{o:Oper}{a:Act}{K:Act->Q0->Prop}{d:Exit->Act->Q0->Prop}{X:Prop}{w:Q0}(C:o.guard=J)(s x:Operand)(ho:o.op=.call {callee:=.builtin .append,args:=#[s,x],argTypes:=#[28,28]})(v:Q4)(n:Nat)(l:List gw)(_hn:n=O l)(hv:a.eval s=v)(i:nM w 0 v l)(m:gw)(hs:gE w (a.eval x) 1 1 (jr [m]))(am:O l+1<=8796093022208)(h:∀v' w',nM w' 0 v' (l++[m])->nM w' 0 v l->w.grownBy w' (Rl v)->(∀b,Rl v'=N b->Rl v=N b\/G (Q w)<=b)->K (a.put o.dst v') w'):if Region.wanted o (yielded iS a.tmps)=true then Oper.wp prog o a w K d else X:=by
 have hw:Region.wanted o (yielded iS a.tmps)=true:=by simp[Region.wanted,C]
 rw[aw hw];subst _hn;obtain⟨i0,D,r,E,u⟩:=dE Aj;have hmx:maxLen=9223372036854775807:=rfl;have hk:i0.size=1:=E;have q:Src prog i0.size 28 (a.eval x) 1 (jr [m]) w:=by rw[hk];exact gE.src underlying28 hs (vQ [m])
 have F:gS w 0 i0.size v (O l) (jr l):=by rw[hk];exact i.own
 obtain⟨v',w',M,h1,h2,R⟩:=mc (P:=prog) w 0 28 28 o.type 9 i0 (Q7 ⟨#[]⟩) underlying28 D r (by rw[hk];rfl) (by omega) v (O l) (jr l) F i.typ (a.eval x) 1 (jr [m]) q (by omega) (by rw[u];omega) ux;obtain⟨S,U,V,-,-,y⟩:=my (P:=prog) w 0 28 28 o.type 9 i0 (Q7 ⟨#[]⟩) underlying28 D r (by rw[hk];rfl) (by omega) v (O l) (jr l) F (a.eval x) 1 (jr [m]) q (by omega) (by rw[u];omega) ux;have W:=V.symm.trans M;injection W with e1 e2;subst e1 e2;rw[hk]at h1;rw[<-ny]at h1;have B:nM U 0 S (l++[m]):=⟨by simpa using h1,R⟩;unfold Oper.wp execOp;simp only[ho,resolve,invoke,builtin,cI,fF,cz,eH,bG,dM,hv,M];refine h _ _ B ?_ h2 ?_
 .rcases y with ⟨g,off,cap,rfl,rfl,-⟩|rfl|⟨cap,rfl,j⟩
  .have Z:=gS.Pn h1 (O l) (by omega);have e:(jr (l++[m])).take (O l)=jr l:=by rw[ny];exact List.take_left' (mQ l)
   rw[e]at Z;exact⟨Z,fun b j=>R b j⟩
  .obtain⟨hl,h0|⟨g,off,cap,e,-⟩⟩:=h1
   .rw[mQ,ab]at hl;have:=h0.2;simp at this
   .cases e
  .exact i.below j
 .intro b j;rcases y with ⟨g,off,cap,rfl,rfl,-⟩|rfl|⟨cap,rfl,-⟩
  .exact .inl j
  .simp[Value.ownBlock]at j
  .right;simp[Value.ownBlock]at j;omega
def oP(a:iy):Nat×Nat:=match a.l4 with
 | none=>(0,0)
 | some f=>f
def rh(a:iy):Nat×Nat:=match a.me with
 | none=>(0,0)
 | some (v,of,_)=>(v,of)
def te(a:iy):List gw:=match a.me with
 | none=>[]
 | some (_,_,got)=>got
structure jW(w:Q0)(A n:Nat)(l:List Int)(t o r g:Q4)(a:iy):Prop where
 row:w.heap[A]?=N (Q1 #[I Re (a.V:Nat),t,o,I Y ((oP a).1:Nat),I Y ((oP a).2:Nat),I Y n,r,Rh a.me.isSome,I Re ((rh a).1:Nat),I Y ((rh a).2:Nat),g] 53 (0,0))
 T:iD w t a.T
 out:nM w 0 o a.out
 room:gE w r 1 3 [I Y (gY l 0),I Y (gY l 1),I Y (gY l 2)]
 got:gE w g 1 (te a).length (jr (te a))
 sep:∀j,Rl o=N j->Rl t≠N j/\Rl r≠N j/\Rl g≠N j
 sepA:Rl t≠N A/\Rl r≠N A/\Rl g≠N A/\Rl o≠N A
 lt:∀j,(Rl t=N j\/Rl r=N j\/Rl g=N j)->j<G (Q w)
def KE(A:Nat)(o:Q4)(j:Nat):Prop:=j=A\/Rl o=N j
def yW(w:Q0)(A n:Nat)(l:List Int)(t o r g:Q4)(a a':iy)(e:Ending)(w':Q0):Prop:=e=Ra (Rc #[])/\∃o',jW w' A n l t o' r g a'/\nM w' 0 o a.out/\gR (KE A o) w w'/\∀j,Rl o'=N j->Rl o=N j\/G (Q w)<=j
theorem jW.ext{w:Q0}{o:Q4}(h:jW w A n l t o r g a)(i:gR D w w')(q:¬D A)(m:∀j,(Rl t=N j\/Rl o=N j\/Rl r=N j\/Rl g=N j)->¬D j):jW w' A n l t o r g a:=
 ⟨i.at q h.row,gE.frame h.T fun b e d=>i.block b d (m b (.inl e)),⟨h.out.own.frame i.size fun b e d=>i.block b d (m b (.inr (.inl e))),h.out.typ.frame fun b e d=>i.block b d (m b (.inr (.inl e)))⟩,gE.frame h.room fun b e d=>i.block b d (m b (.inr (.inr (.inl e)))),gE.frame h.got fun b e d=>i.block b d (m b (.inr (.inr (.inr e)))),h.sep,h.sepA,fun j e=>ae (h.lt j e) i.size⟩
theorem jW.below{w:Q0}{o:Q4}(h:jW w A n l t o r g a)(b:Q8 (G (Q w)) w w'):jW w' A n l t o r g a:=
 h.ext (gR.gO (S:=fun _=>False) b) (fun e=>e) (fun _ _ e=>e)
theorem jW.Np{w b:Q0}{o o7:Q4}(h:jW w A n l t o r g a)(y:gR D w b)(C:∀j,D j->j=A\/Rl o=N j)(E:nM b 0 o7 L)(F:nM b 0 o a.out)(q:b.heap[A]?=N (Q1 #[I Re (a.V:Nat),t,o,I Y ((oP a).1:Nat),I Y ((oP a).2:Nat),I Y n,r,Rh a.me.isSome,I Re ((rh a).1:Nat),I Y ((rh a).2:Nat),g] 53 (0,0)))(W:∀j,Rl o7=N j->Rl o=N j\/G (Q w)<=j):
  jW (Rp b ⟨A,2,J⟩ o7) A n l t o7 r g {a with out:=L}/\nM (Rp b ⟨A,2,J⟩ o7) 0 o a.out/\gR (KE A o) w (Rp b ⟨A,2,J⟩ o7):=by
 have i:∀j,j≠A->(Rp b ⟨A,2,J⟩ o7).heap[j]?=b.heap[j]?:=fun j e=>Below.heap_setCell b ⟨A,2,J⟩ _ j e;have x:Rl o7≠N A:=E.typ.ne q (by decide);have M:Rl o≠N A:=F.typ.ne q (by decide)
 have R:∀{v:Q4} {L:List gw},nM b 0 v L->Rl v≠N A->nM (Rp b ⟨A,2,J⟩ o7) 0 v L:=fun u ha=>
  ⟨u.own.frame (by rw[QO];exact aq _) fun j e _=>i j fun d=>ha (by rw[e,d]),u.typ.frame fun j e _=>i j fun d=>ha (by rw[e,d])⟩
 have hold:∀{v:Q4} {k m:Nat} {S:List Q4},gE w v k m S->Rl v≠N A->(∀j,Rl o=N j->Rl v≠N j)->gE (Rp b ⟨A,2,J⟩ o7) v k m S:=fun u ha X=>
  gE.frame u fun j e B=>(i j fun d=>ha (by rw[e,d])).trans (y.block j B fun Z=>(C j Z).elim (fun d=>ha (by rw[e,d])) fun d=>X j d e)
 obtain⟨s1,s2,U,-⟩:=h.sepA;refine⟨⟨QN _ _ 2 _ q,hold h.T s1 fun j e=>(h.sep j e).1,R E x,hold h.room s2 fun j e=>(h.sep j e).2.1,hold h.got U fun j e=>(h.sep j e).2.2,fun j e=>?_,⟨s1,s2,U,x⟩,fun j e=>ae (h.lt j e) (by rw[QO];exact y.size)⟩,R F M,(y.mono fun j B=>C j B).setCell ⟨A,2,J⟩ _ (.inl (.inl rfl))⟩;rcases W j e with d|d
 .exact h.sep j d
 .exact⟨fun s=>by have:=h.lt j (.inl s);omega,fun s=>by have:=h.lt j (.inr (.inl s));omega,fun s=>by have:=h.lt j (.inr (.inr s));omega⟩
theorem pr(A n:Nat)(l:List Int)(t o r g:Q4)(a:iy)(k:Int)(kb:UInt8)(body:gw)(w:Q0)(h:jW w A n l t o r g a)(hk:byteOf k=kb)(X:O body<=im)(ho:O a.out<=6):
  Rg prog 79 #[Q5 (N ⟨A,0,J⟩),I Y k,Q7 ⟨Rm body⟩] w (yW w A n l t o r g a (a.put kb body)):=by
 obtain⟨E,F,rfl⟩:=h.out.own.shape;have c2:=gr 2 h.row;have ag:=gm h.row;have u:=gj h;have HK:=gj hk;by_cases R:O a.out<6
 .have S:(O a.out:Int)<6:=by omega
  have i:gy (a.put kb body={a with out:=a.out++[vh kb body]}):=gj (by unfold iy.put;rw[aw R]);have x:=gj (fun W=>pB k body W X);rw[hk]at x;generalize vh kb body=U at *
  clear hk h;go_enter func79,ntmps79;go_upto_region 1 with fail
  go_region_law
   ((first
     | (go_simp;go_at_call 28;refine(x.o _).mono ?_;rintro e w3 ⟨rfl,y⟩;
         have m:jW w3 A n l t (Q6 E (O a.out) F) r g a:=u.o.below ((Below.rf w).drew.tn y);have B:gy (Q8 (G (Q w)) w w3):=gj ((Below.rf w).drew.tn y);have ak:=gr 2 m.row;have Z:=gm m.row)
     | (refine zX rfl (.tmp 16) (.tmp 20) rfl (Q6 E (O a.out) F) (O a.out) a.out rfl rfl (by exact(m.below ((Below.rf w3).alloc gH _)).out) U (vP (by exact gB _ _)) (by omega) ?_;intro v7 w7 C M D q;
         obtain⟨al,am,rfl⟩:=C.own.shape;have d:=gj (lR D m.sepA.2.2.2 (gP w3 _ m.row));have ap:=gr 2 d.o;have av:=gD 2 d.o;have aE:=gm d.o)))
  all_goals
   have s:Q8 (G (Q w)) w (Ro w3 (Q1 #[Q7 ⟨Rm U⟩] 9)):=B.o.alloc B.o.size _;have V:gR (fun j=>(Q6 E (O a.out) F).ownBlock=N j) w w7:=(gR.gO s).trans (nJ D);have b:=u.o.Np V (fun j e=>.inr e) C M d.o (fun j e=>(q j e).imp id fun e=>by have:=s.size;omega);simp only[ab,dw]at b q;go_wp2;go_end0;rw[i.o];exact⟨rfl,_,b.1,b.2.1,b.2.2,fun j e=>(q j e).imp id fun e=>by have:=s.size;omega⟩
 .have S:¬(O a.out:Int)<6:=by omega
  have i:gy (a.put kb body=a):=gj (by unfold iy.put;rw[af R]);clear hk h;go_enter func79,ntmps79;go_wp2_with fail;go_end0;exact⟨rfl,_,by rw[i.o];exact u.o,u.o.out,gR.refl _ _,fun j e=>.inl e⟩
theorem nL(A n:Nat)(l:List Int)(t o r g:Q4)(a:iy)(w:Q0)(h:jW w A n l t o r g a)(i:O a.out<=6)(m:a.V<18446744073709551616):
  Rg prog 74 #[Q5 (N ⟨A,0,J⟩)] w (yW w A n l t o r g a a.ki):=by
 have c0:=gr 0 h.row;have y:=gm h.row;have q:=gj h;clear h;go_enter func74,ntmps74;go_wp2_with fail;refine(mS a.V w m).mono ?_;rintro e w1 ⟨rfl,b⟩;have d:(8:Nat)<=im:=by decide
 go_wp2_with fail;refine(pr A n l t o r g a 16 16 (nC a.V) w1 (q.o.below b) (by decide) (by rw[iB];exact d) i).mono ?_;rintro e w2 ⟨rfl,o',h1,s,u,x⟩;go_wp2;go_end0;exact⟨rfl,o',h1,s,(gR.gO b).trans u,fun j e=>(x j e).imp id fun e=>by have:=b.size;omega⟩
theorem rp(A n:Nat)(l:List Int)(t o r g:Q4)(a:iy)(k:Nat)(w:Q0)(h:jW w A n l t o r g a)(m:O a.out<=6)(hk:k<256):
  Rg prog 70 #[Q5 (N ⟨A,0,J⟩),I Y (k:Int)] w (yW w A n l t o r g a (a.jM k)):=by
 have q:=gj h;have d:(((UInt8.ofNat k).toNat:Nat):Int)=(k:Int):=by rw[fe];omega
 have i:gy (gI (Ro w (Q1 #[I Rf (k:Int)] 5)) (Q6 (N ⟨G (Q w),0,J⟩) 1 1) [UInt8.ofNat k]):=gj (by rw[<-d];exact ow w (UInt8.ofNat k));have y:IntKind.u8.wrap (k:Int)=(k:Int):=IntWalk.u8_in _ (by omega);have B:(8:Nat)<=im:=by decide
 have b:Q8 (G (Q w)) w (Ro w (Q1 #[I Rf (k:Int)] 5)):=(Below.rf w).alloc gH _;clear h d;go_enter func70,ntmps70;go_wp2_with (refine iL rfl (.tmp 7) rfl [UInt8.ofNat k] (by exact i.o) ?_);refine(pr A n l t o r g a 18 18 [UInt8.ofNat k] _ (q.o.below b) (by decide) (by simp;omega) m).mono ?_;rintro e w2 ⟨rfl,o',h1,s,u,x⟩;go_wp2;go_end0;exact⟨rfl,o',h1,s,(gR.gO b).trans u,fun j e=>(x j e).imp id fun e=>by have:=b.size;omega⟩
theorem rq(A n:Nat)(l:List Int)(t o r g:Q4)(a:iy)(w:Q0)(h:jW w A n l t o r g a)(x:O a.out<=6)(y:(te a).length<256):
  Rg prog 117 #[Q5 (N ⟨A,0,J⟩)] w (yW w A n l t o r g a a.lX):=by
 have B:=gj h;have d:a.Gi=(te a).length:=by unfold iy.Gi te;split<;>rename_i e<;>rw[e];rfl
 have i:=gj d;obtain⟨q,U,gc,rfl,-,-⟩:=h.got;have s:=gr 10 h.row;have M:=gm h.row;obtain⟨k,hk⟩:∃k,k=(te a).length:=⟨_,rfl⟩;rw[<-hk]at y s i;have C:gy (a.lX=a.put 19 [UInt8.ofNat k]):=gj (by unfold iy.lX;rw[i.o]);have m:(((UInt8.ofNat k).toNat:Nat):Int)=(k:Int):=by rw[fe];omega
 have u:gy (gI (Ro w (Q1 #[I Rf (k:Int)] 5)) (Q6 (N ⟨G (Q w),0,J⟩) 1 1) [UInt8.ofNat k]):=gj (by rw[<-m];exact ow w (UInt8.ofNat k));have R:IntKind.u8.wrap (k:Int)=(k:Int):=IntWalk.u8_in _ (by omega);have S:(8:Nat)<=im:=by decide
 have b:Q8 (G (Q w)) w (Ro w (Q1 #[I Rf (k:Int)] 5)):=(Below.rf w).alloc gH _;clear h m q d hk;go_enter func117,ntmps117;go_wp2_with (refine iL rfl (.tmp 9) rfl [UInt8.ofNat k] (by exact u.o) ?_);refine(pr A n l t o r _ a 19 19 [UInt8.ofNat k] _ (B.o.below b) (by decide) (by simp;omega) x).mono ?_;rintro e w2 ⟨rfl,o',h1,D,E,F⟩;rw[<-C.o]at h1;go_wp2;go_end0;exact⟨rfl,o',h1,D,(gR.gO b).trans E,fun j e=>(F j e).imp id fun e=>by have:=b.size;omega⟩
def mr(w:Q0)(A n:Nat)(l:List Int)(t o r g:Q4)(a':iy)(w':Q0):Prop:=∃o' g',jW w' A n l t o' r g' a'/\gR (KE A o) w w'/\(∀j,Rl o'=N j->Rl o=N j\/G (Q w)<=j)/\∀j,Rl g'=N j->Rl g=N j\/G (Q w)<=j
theorem yW.go{w:Q0}{o:Q4}(h:yW w A n l t o r g a a' e w'):e=Ra (Rc #[])/\mr w A n l t o r g a' w':=by obtain⟨h1,o',b,-,d,i⟩:=h;exact⟨h1,o',g,b,d,i,fun _ e=>.inl e⟩
theorem mr.trans{w:Q0}{o g1:Q4}(b:gR (KE A o) w w1)(i:∀j,Rl d=N j->Rl o=N j\/G (Q w)<=j)(m:∀j,Rl g1=N j->Rl g=N j\/G (Q w)<=j)(h:mr w1 A n l t d r g1 a' w2):mr w A n l t o r g a' w2:=by
 obtain⟨o',g',h1,q,s,u⟩:=h;refine⟨o',g',h1,b.j8 q fun j x=>?_,fun j e=>?_,fun j e=>?_⟩
 .rcases x with e|e
  .exact .inl (.inl e)
  .exact(i j e).imp .inr id
 .rcases s j e with e|e
  .exact i j e
  .exact .inr (au b.size e)
 .rcases u j e with e|e
  .exact m j e
  .exact .inr (au b.size e)
theorem mr.first{w b:Q0}{o:Q4}(d:Q8 (G (Q w)) w b)(h:mr b A n l t o r g a' w'):mr w A n l t o r g a' w':=
 mr.trans (gR.gO d) (fun _ e=>.inl e) (fun _ e=>.inl e) h
theorem mr.done{w w3:Q0}{o:Q4}(b:jW w A n l t o r g a)(d:Q8 (G (Q w)) w w1)(h:mr w1 A n l t o r g a' w2)(q:gR D w2 w3)(i:∀j,D j->G (Q w)<=j/\j<G (Q w1)):mr w A n l t o r g a' w3:=by
 obtain⟨o',g',h1,y,s,u⟩:=h;have x:∀j,Rl o=N j->j<G (Q w):=fun j e=>gS.iA b.out.own j e;refine⟨o',g',h1.ext q (fun e=>?_) (fun j e m=>?_),((gR.gO d).trans y).j8 q fun j m=>.inr (i j m).1,fun j e=>(s j e).imp id fun e=>au d.size e,fun j e=>(u j e).imp id fun e=>au d.size e⟩
 .have:=i A e;have:=gm b.row;omega
 .have B:=i j m;rcases e with e|e|e|e
  .have:=b.lt j (.inl e);omega
  .rcases s j e with e|e
   .have:=x j e;omega
   .omega
  .have:=b.lt j (.inr (.inl e));omega
  .rcases u j e with e|e
   .have:=b.lt j (.inr (.inr e));omega
   .omega
theorem nu(A n:Nat)(l:List Int)(t o r g:Q4)(a:iy)(k:Nat)(p:Int)(w:Q0)(h:jW w A n l t o r g a)(m:a.mN)(hk:k<256):
  Rg prog 72 #[Q5 (N ⟨A,0,J⟩),Q9 #[I Y (k:Int),I Y p]] w fun e w'=>e=Ra (Rc #[])/\mr w A n l t o r g (a.pW k) w':=by
 have u:=gj h;have b:=m.jM k;have x:=m.out;have q:=b.out;have E:=b.v;have d:Q8 (G (Q w)) w (Ro w (Q1 #[I Y (k:Int),I Y p] 31)):=(Below.rf w).alloc gH _;have j:=gB w (Q1 #[I Y (k:Int),I Y p] 31);have i:=gj d;go_enter func72,ntmps72;go_upto_region 1 with fail;generalize Ro w (Q1 #[I Y (k:Int),I Y p] 31)=w1 at *
 have c0:=gr 0 j;have s:=gm j;clear h d;go_wp2_with fail;refine(rp A n l t o r g a k w1 (u.o.below i.o) x hk).mono ?_;rintro e w2 ⟨rfl,o',h1,-,y,B⟩;clear c0 s j;go_wp2_with fail;refine(nL A n l t o' r g (a.jM k) w2 h1 q (by omega)).mono ?_;intro e w3 C;obtain⟨rfl,D⟩:=C.go;go_wp2;go_end0;exact⟨rfl,mr.first i.o (mr.trans y B (fun _ e=>.inl e) D)⟩
theorem GW(A n:Nat)(l:List Int)(t o r g:Q4)(a:iy)(w:Q0)(h:jW w A n l t o r g a):
  Rg prog 118 #[Q5 (N ⟨A,0,J⟩)] w fun e w'=>e=Ra (Rc #[])/\jW w' A n l t o r (Q6 J 0 0) {a with me:=J}/\gR (fun j=>j=A) w w':=by
 have B:=gm h.row;have E:=gD 7 h.row;have F:=gD 8 h.row;have z9:=gD 9 h.row;have C:=gD 10 h.row;have M:=gr 7 h.row;have R:=gr 8 h.row;have S:=gr 9 h.row;have D:=gr 10 h.row;have u:gR (fun j=>j=A) w ((((Rp w ⟨A,7,J⟩ (Rh false)).setCell ⟨A,8,J⟩ (I Re 0)).setCell ⟨A,9,J⟩ (I Y 0)).setCell ⟨A,10,J⟩ (Q6 J 0 0)):=((((gR.refl (fun j=>j=A) w).setCell ⟨A,7,J⟩ _ (.inl rfl)).setCell ⟨A,8,J⟩ _ (.inl rfl)).setCell ⟨A,9,J⟩ _ (.inl rfl)).setCell ⟨A,10,J⟩ _ (.inl rfl);have x:=QN _ _ 10 (Q6 J 0 0) (QN _ _ 9 (I Y 0) (QN _ _ 8 (I Re 0) (QN _ _ 7 (Rh false) h.row)));have i:=gj u;have y:=gj x;have d:=gj h;clear h u x;go_enter func118,ntmps118;go_wp2;go_end0;obtain⟨s1,s2,U,s⟩:=d.o.sepA;refine⟨rfl,⟨y.o,gE.frame d.o.T fun b e m=>i.o.block b m fun q=>s1 (by rw[e,q]),⟨d.o.out.own.frame i.o.size fun b e m=>i.o.block b m fun q=>s (by rw[e,q]),d.o.out.typ.frame fun b e m=>i.o.block b m fun q=>s (by rw[e,q])⟩,gE.frame d.o.room fun b e m=>i.o.block b m fun q=>s2 (by rw[e,q]),gE.nil _ _ _ _,fun j e=>⟨(d.o.sep j e).1,(d.o.sep j e).2.1,by simp[Value.ownBlock]⟩,⟨s1,s2,by simp[Value.ownBlock],s⟩,fun j e=>?_⟩,i.o⟩;refine ae (d.o.lt j (e.imp id (Or.imp id fun e=>?_))) i.o.size;simp[Value.ownBlock]at e
theorem yw{f:Nat×Nat}(h:a.l4=N f):oP a=f:=by unfold oP;rw[h]
theorem Dp(h:a.l4=J):oP a=(0,0):=by unfold oP;rw[h]
theorem C4(gb go n cap i:Nat)(a:Int)(ha:a=(i:Int))(j:i<=n)(_hc:n<=cap)(w:Q0):
  (Instr.slice 28 (Q6 (N ⟨gb,go,J⟩) n cap) (N (I Y a)) J J).run prog w=.ok (Q6 (N ⟨gb,if cap=i then go else go+i,J⟩) (n-i) (cap-i)) w:=by
 subst ha;have b:prog.underlying 28=N (.slice (prog.elem 28)):=by kernel_rfl
 have d:(sizeOf (prog.elem 28)).run prog w=.ok 1 w:=by kernel_rfl
 rw[run_slice_l (P:=prog) (w:=w) 28 (N ⟨gb,go,J⟩) n cap b Y (i:Int) (by omega) (by omega),d];by_cases h:cap=i
 .simp[Result.andThen,sliced,h]
 .simp[Result.andThen,sliced,Addr.add,h]
theorem nM.tail{w:Q0}{b off cap:Nat}{s:gw}(h:nM w 0 (Q6 (N ⟨b,off,J⟩) n cap) (s::L)):n=O L+1/\n<=cap/\nM w 0 (Q6 (N ⟨b,if cap=1 then off else off+1,J⟩) (n-1) (cap-1)) L/\Rn w ⟨b,off,J⟩=N (Q7 ⟨Rm s⟩):=by
 obtain⟨⟨hl,q|⟨g,r,cap',e,h1,u,l,C,m,x⟩⟩,y⟩:=h
 .cases q.1
 .cases e;have D:O L+1<=cap:=by simpa using l
  have o:=m 0 (by simp[jr]);refine⟨by simp,l,⟨⟨by simp[jr],.inr ⟨b,if cap=1 then off else off+1,cap-1,rfl,h1,u,by omega,by omega,fun i d=>?_,fun i d=>?_⟩⟩,fun j e=>y j e⟩,by simpa [jr]using o⟩
  .have B:i<O L:=by rw[mQ]at d;exact d
   rw[af (by omega)];have:=m (i+1) (by rw[mQ,ao];omega);rw[show off+(i+1)=off+1+i by omega]at this;rw[this];simp[jr]
  .rw[af (by omega)];have:=x (i+1) (by omega);rw[show off+(i+1)=off+1+i by omega]at this;exact this
theorem GZ(A n:Nat)(l:List Int)(t o r g:Q4)(a:iy)(w:Q0)(h:jW w A n l t o r g a)(D:a.mN):
  Rg prog 81 #[Q5 (N ⟨A,0,J⟩)] w fun e w'=>e=Ra (Km a.next.2)/\mr w A n l t o r g a.next.1 w':=by
 have am:=gm h.row;have c2:=gr 2 h.row;have z2:=gD 2 h.row;have V:=gj h;have X:=D.out;cases d:a.out with
 | nil=>have E:gy (a.next=(a,J)):=gj (by unfold iy.next;rw[d]);obtain⟨oa,oc,rfl⟩:=h.out.own.shape;rw[d]at c2;clear h D d;go_enter func81,ntmps81;go_wp2;go_ret2;rw[E.o];exact⟨rfl,_,_,V.o,gR.refl _ _,fun j e=>.inl e,fun j e=>.inl e⟩
 | cons s L=>
  have E:gy (a.next=({a with out:=L},N s)):=gj (by unfold iy.next;rw[d]);have u:=h.out;rw[d]at u X;obtain⟨hl,Z|⟨b,off,cap,e,-⟩⟩:=u.own
  .have:=Z.2;simp at this
  .subst e;obtain⟨hn,R,B,S⟩:=u.tail;have i:=h.Np (o7:=Q6 (N ⟨b,if cap=1 then off else off+1,J⟩) ((s::L).length-1) (cap-1)) (gR.refl (fun _=>False) w) (fun j e=>e.elim) B h.out h.row (fun j e=>.inl (by simpa [Value.ownBlock]using e));have C:=fun W=>C4 b off (s::L).length cap 1 1 rfl (by simp) R W;obtain⟨F,m⟩:∃x,x=if cap=1 then off else off+1:=⟨_,rfl⟩;obtain⟨cap',q⟩:∃x,x=cap-1:=⟨_,rfl⟩;rw[<-m,<-q]at i;have ag:∀W,(Instr.slice 28 (Q6 (N ⟨b,off,J⟩) (s::L).length cap) (N (I Y 1)) J J).run prog W=.ok (Q6 (N ⟨b,F,J⟩) ((s::L).length-1) cap') W:=fun W=>by rw[m,q];exact C W
   have y:=gj i;have ap:=gK S;clear C m q;have M:(s::L).length=O L+1:=rfl;clear h D d u hl hn B i;generalize (s::L).length=U at *
   have ak:((U:Int)==0)=false:=ar.2 (by omega);have al:(0:Int)<U:=by omega
   clear M;go_enter func81,ntmps81;go_wp2;go_ret2;rw[E.o];exact⟨rfl,_,_,y.o.1,y.o.2.2,fun j e=>.inl (by simpa [Value.ownBlock]using e),fun j e=>.inl e⟩
theorem jW.setRow{w:Q0}{o:Q4}(h:jW w A n l t o r g a)(m:gR (fun j=>j=A) w w')(s:w'.heap[A]?=N (Q1 #[I Re (a'.V:Nat),t,o,I Y ((oP a').1:Nat),I Y ((oP a').2:Nat),I Y n,r,Rh a'.me.isSome,I Re ((rh a').1:Nat),I Y ((rh a').2:Nat),g] 53 (0,0)))(u:a'.T=a.T)(x:a'.out=a.out)(y:te a'=te a):jW w' A n l t o r g a':=by obtain⟨s1,s2,B,q⟩:=h.sepA;exact⟨s,by rw[u];exact gE.frame h.T fun b e d=>m.block b d fun i=>s1 (by rw[e,i]),by rw[x];exact⟨h.out.own.frame m.size fun b e d=>m.block b d fun i=>q (by rw[e,i]),h.out.typ.frame fun b e d=>m.block b d fun i=>q (by rw[e,i])⟩,gE.frame h.room fun b e d=>m.block b d fun i=>s2 (by rw[e,i]),by rw[y];exact gE.frame h.got fun b e d=>m.block b d fun i=>B (by rw[e,i]),h.sep,h.sepA,fun j e=>ae (h.lt j e) m.size⟩
theorem uh(A n:Nat)(l:List Int)(t o r g:Q4)(a:iy)(k p:Nat)(w:Q0)(h:jW w A n l t o r g a)(C:O a.out<=6)(hk:k<256):
  Rg prog 77 #[Q5 (N ⟨A,0,J⟩),Q9 #[I Y (k:Int),I Y (p:Int)]] w (yW w A n l t o r g a (a.jZ (k,p))):=by
 have d:Q8 (G (Q w)) w (Ro w (Q1 #[I Y (k:Int),I Y (p:Int)] 31)):=(Below.rf w).alloc gH _;have i:=gB w (Q1 #[I Y (k:Int),I Y (p:Int)] 31);have h1:=h.below d;have M:=gm h.row;go_enter func77,ntmps77;go_upto_region 1 with fail;generalize Ro w (Q1 #[I Y (k:Int),I Y (p:Int)] 31)=w1 at *
 have c0:=gr 0 i;have c1:=gr 1 i;have u:=gm i;have d3:=gr 3 h1.row;have d4:=gr 4 h1.row;have z3:=gD 3 h1.row;have z4:=gD 4 h1.row;have x:=gm h1.row;have b:gR (fun j=>j=A) w1 ((Rp w1 ⟨A,3,J⟩ (I Y (k:Int))).setCell ⟨A,4,J⟩ (I Y (p:Int))):=((gR.refl (fun j=>j=A) w1).setCell ⟨A,3,J⟩ _ (.inl rfl)).setCell ⟨A,4,J⟩ _ (.inl rfl);have y:=h1.setRow (a':={a with l4:=N (k,p)}) b (QN _ _ 4 (I Y (p:Int)) (QN _ _ 3 (I Y (k:Int)) h1.row)) rfl rfl rfl;have B:=b.at (show ¬(G (Q w))=A by omega) i;have m:=gj b;have q:=gj d;have D:=gj y;have s:=gj B;clear h h1 d b y B;go_upto_region 2 with fail;generalize (Rp w1 ⟨A,3,J⟩ (I Y (k:Int))).setCell ⟨A,4,J⟩ (I Y (p:Int))=w2 at *
 have e0:=gr 0 s.o;have R:=gm s.o;clear c0 c1 u d3 d4 z3 z4 x i;go_wp2_with fail;refine(rp A n l t o r g {a with l4:=N (k,p)} k w2 D.o C hk).mono ?_;rintro e w3 ⟨rfl,o',g1,g2,E,g4⟩;go_wp2;go_end0;exact⟨rfl,o',g1,g2,(gR.gO q.o).trans ((m.o.mono fun j F=>.inl F).trans E),fun j e=>(g4 j e).imp id fun e=>by have:=q.o.size;have:=m.o.size;omega⟩
def J2(b w:Q0)(v:Q4):Option iV->Prop
 | none=>v=Q9 #[Rh false,I Re 0,I Re 0,Q6 J 0 0,Q6 J 0 0]
 | some (.delta m os)=>∃d,v=Q9 #[Rh false,I Re (m:Nat),I Re (m:Nat),d,Q6 J 0 0]/\gS w (G (Q b)) 4 d (O os) (iP os)
 | some (.nG m T)=>∃tv,v=Q9 #[Rh true,I Re (m:Nat),I Re 0,Q6 J 0 0,tv]/\iD w tv T/\∀j,Rl tv=N j->G (Q b)<=j/\j<G (Q w)
def sV(w:Q0)(A n:Nat)(l:List Int)(t o r g:Q4)(x:iy×Option iV)(e:Ending)(w':Q0):Prop:=∃v,e=Ra (Rc #[v,Rh x.2.isSome])/\J2 w w' v x.2/\mr w A n l t o r g x.1 w'/\(x.2.isSome=true->∃g',jW w' A n l t o r g' x.1/\∀j,Rl g'=N j->Rl g=N j\/G (Q w)<=j)
def oB(w:Q0)(R:Nat)(a b c d e:Q4):Q0:=((((Rp w ⟨R,0,J⟩ a).setCell ⟨R,1,J⟩ b).setCell ⟨R,2,J⟩ c).setCell ⟨R,3,J⟩ d).setCell ⟨R,4,J⟩ e
theorem Am{w:Q0}{a b e:Q4}{T:Ri}{i:Nat×Nat}(h:w.heap[R]?=N (Q1 #[a,b,c,d,e] T i))(x y z u v:Q4):(oB w R x y z u v).heap[R]?=N (Q1 #[x,y,z,u,v] T i):=QN _ _ 4 _ (QN _ _ 3 _ (QN _ _ 2 _ (QN _ _ 1 _ (QN _ _ 0 _ h))))
theorem yc(w:Q0)(R:Nat)(x y z u v:Q4):gR (fun k=>k=R) w (oB w R x y z u v):=(((((gR.refl (fun k=>k=R) w).setCell ⟨R,0,J⟩ _ (.inl rfl)).setCell ⟨R,1,J⟩ _ (.inl rfl)).setCell ⟨R,2,J⟩ _ (.inl rfl)).setCell ⟨R,3,J⟩ _ (.inl rfl)).setCell ⟨R,4,J⟩ _ (.inl rfl)
theorem xc{w:Q0}{a b:Q4}{T:Ri}(h:w.heap[R]?=N (Q1 #[a,b] T (0,0))):Rn w ⟨R,0,J⟩=N a/\Rn w ⟨R,1,J⟩=N b/\R<G (Q w):=⟨gr 0 h,gr 1 h,gm h⟩
theorem lB{w:Q0}{a b e:Q4}{T:Ri}(h:w.heap[R]?=N (Q1 #[a,b,c,d,e] T (0,0))):Rn w ⟨R,0,J⟩=N a/\Rn w ⟨R,1,J⟩=N b/\Rn w ⟨R,2,J⟩=N c/\Rn w ⟨R,3,J⟩=N d/\Rn w ⟨R,4,J⟩=N e/\R<G (Q w):=⟨gr 0 h,gr 1 h,gr 2 h,gr 3 h,gr 4 h,gm h⟩
theorem oS{w:Q0}{a b e:Q4}{T:Ri}(h:w.heap[R]?=N (Q1 #[a,b,c,d,e] T (0,0))):w.frozen? ⟨R,0,J⟩=false/\w.frozen? ⟨R,1,J⟩=false/\w.frozen? ⟨R,2,J⟩=false/\w.frozen? ⟨R,3,J⟩=false/\w.frozen? ⟨R,4,J⟩=false:=⟨gD 0 h,gD 1 h,gD 2 h,gD 3 h,gD 4 h⟩
theorem jW.Kq{w:Q0}{o:Q4}(h:jW w A n l t o r g a)(b:G (Q w)<=R):¬KE A o R:=fun e=>e.elim (fun e=>by have:=gm h.row;omega) fun e=>by have:=gS.iA h.out.own R e;omega
theorem sV.end{w:Q0}{o:Q4}{i m q s:Q4}(u:jW w A n l t o r g a)(B:Q8 (G (Q w)) w w1)(h:mr w1 A n l t o r g a' w2)(x:w1.heap[R]?=N (Q1 #[d,i,m,q,s] 65 (0,0)))(y:G (Q w)<=R):
  w2.heap[R]?=N (Q1 #[d,i,m,q,s] 65 (0,0))/\gy ((oB w2 R (Rh false) (I Re 0) (I Re 0) (Q6 J 0 0) (Q6 J 0 0)).heap[R]?=N (Q1 #[Rh false,I Re 0,I Re 0,Q6 J 0 0,Q6 J 0 0] 65 (0,0))/\mr w A n l t o r g a' (oB w2 R (Rh false) (I Re 0) (I Re 0) (Q6 J 0 0) (Q6 J 0 0))):=by
 have b:w2.heap[R]?=N (Q1 #[d,i,m,q,s] 65 (0,0)):=by obtain⟨o',g',-,C,-⟩:=h;exact C.at (u.Kq y) x
 exact⟨b,gj ⟨Am b _ _ _ _ _,mr.done u B h (yc w2 R _ _ _ _ _) fun j D=>by rw[D];exact⟨y,gm x⟩⟩⟩
theorem BH(A n:Nat)(l:List Int)(t o r g:Q4)(a:iy)(body:gw)(w:Q0)(h:jW w A n l t o r g a)(hf:a.mN)(hb:O body<=im):
  Rg prog 73 #[Q5 (N ⟨A,0,J⟩),Q7 ⟨Rm body⟩] w (sV w A n l t o r g (a.delta body)):=by
 have bc:Q8 (G (Q w)) w (Ro w (Q1 #[Rh false,I Re 0,I Re 0,Q6 J 0 0,Q6 J 0 0] 65)):=(Below.rf w).alloc gH _;have R1:=gB w (Q1 #[Rh false,I Re 0,I Re 0,Q6 J 0 0,Q6 J 0 0] 65);have bi:=gj bc;have HH:=gj h;have HF:=gj hf;have b2:=gm h.row;go_enter func73,ntmps73;go_upto_region 1 with fail;generalize Ro w (Q1 #[Rh false,I Re 0,I Re 0,Q6 J 0 0,Q6 J 0 0] 65)=w1 at *
 obtain⟨R,hR⟩:∃R,R=G (Q w):=⟨_,rfl⟩;rw[<-hR]at R1⊢;have b3:=gm R1;have HR:=gj hR;have b4:A<R:=by omega
 have a3:=gj R1;clear h hf bc R1 hR;go_wp2_with fail;refine(CS body w1 hb).mono ?_;intro e w2 hp;obtain⟨a4,hm⟩:=hp;have a5:=gj (bi.o.tn a4);have a0:=gj (gC a4 (gm a3.o) a3.o);have b5:=a4.size;have H2:=gj (HH.o.below a5.o);cases hd:lO body with
 | inr f=>
  obtain⟨k,p⟩:=f;rw[hd]at hm;subst hm;have B:gy (a.delta body=(a.pW k,J)):=gj (by unfold iy.delta;rw[qD,hd]);have b6:=BJ hd;have b8:((k:Int)==0)=false:=ar.2 (by omega);have m:Q8 (G (Q w2)) w2 ((Ro w2 (Q1 #[I Re 0,Q6 J 0 0] 51)).alloc (Q1 #[I Y (k:Int),I Y (p:Int)] 31)):=((Below.rf w2).alloc gH _).alloc (by rw[aj];omega) _;have F4:=pA w2 (Q1 #[I Re 0,Q6 J 0 0] 51) (Q1 #[I Y (k:Int),I Y (p:Int)] 31);clear hd;go_upto_region 3 with fail;generalize (Ro w2 (Q1 #[I Re 0,Q6 J 0 0] 51)).alloc (Q1 #[I Y (k:Int),I Y (p:Int)] 31)=d at *
  have f0:=gr 0 F4;have f1:=gr 1 F4;have ak:=gm F4;have C:=gj (a5.o.tn m);have u:=gj (gC m (gm a0.o) a0.o);have q:=gm u.o;clear m;go_wp2_with fail;refine(nu A n l t o r g a k p d (HH.o.below C.o) HF.o (by omega)).mono ?_;rintro e w5 ⟨rfl,i⟩;obtain⟨a6,y⟩:=sV.end HH.o C.o i u.o (by have:=HR.o;omega);obtain⟨y0,y1,y2,y3,y4,bB⟩:=lB a6;obtain⟨z0,z1,z2,z3,z4⟩:=oS a6;obtain⟨D,E,F,M,S,-⟩:=lB y.out.1;clear i f0 f1 ak F4 a6;unfold oB at D E F M S;go_wp2_with fail;refine ai (v:=Rc #[Q9 #[Rh false,I Re 0,I Re 0,Q6 J 0 0,Q6 J 0 0],Rh false]) (by simp[results,results73,go_sem,D,E,F,M,S]) rfl ?_;rw[B.o];exact⟨_,rfl,rfl,y.out.2,fun h=>by cases h⟩
 | inl x=>
  obtain⟨v,os⟩:=x;rw[hd]at hm;obtain⟨sv,rfl,av⟩:=hm;have s:tR body=.inl (v,os):=by rw[qD,hd]
  obtain⟨U,W,rfl⟩:=av.shape;have m:Q8 (G (Q w2)) w2 ((Ro w2 (Q1 #[I Re (v:Nat),Q6 U (O os) W] 51)).alloc (Q1 #[I Y 0,I Y 0] 31)):=((Below.rf w2).alloc gH _).alloc (by rw[aj];omega) _;have F4:=pA w2 (Q1 #[I Re (v:Nat),Q6 U (O os) W] 51) (Q1 #[I Y 0,I Y 0] 31);have D4:=gP (Ro w2 (Q1 #[I Re (v:Nat),Q6 U (O os) W] 51)) (Q1 #[I Y 0,I Y 0] 31) (gB w2 (Q1 #[I Re (v:Nat),Q6 U (O os) W] 51));have bk:=gj (av.below m);have C:=gj (a5.o.tn m);have u:=gj (gC m (gm a0.o) a0.o);have b1:=m.size;clear hd av m;go_upto_region 3 with fail;generalize (Ro w2 (Q1 #[I Re (v:Nat),Q6 U (O os) W] 51)).alloc (Q1 #[I Y 0,I Y 0] 31)=d at *
  obtain⟨f0,f1,ak⟩:=xc F4;obtain⟨d0,d1,a1⟩:=xc D4;have H4:=gj (HH.o.below C.o);have c0:=gr 0 H4.o.row;have aE:=gm H4.o.row;have q:=gm u.o;have hV:=HF.o.v;have b9:IntKind.u64.wrap ((a.V:Int)+1)=((a.V+1:Nat):Int):=by rw[show((a.V:Int)+1)=((a.V+1:Nat):Int) by omega];exact IntWalk.u64_in _ (by omega)
  have bl:=HF.o.out;by_cases h1:v<=a.V
  .have B:gy (a.delta body=(a.oO,J)):=gj (by unfold iy.delta;rw[s];simp only;rw[aw h1]);have bL:(v:Int)<=(a.V:Int):=by omega
   have bM:(8:Nat)<=im:=by decide
   clear s h1;go_upto_region 5 with fail;go_region
   all_goals
    go_wp2_with fail;refine(mS a.V d.drew (by omega)).mono ?_;rintro e w5 ⟨rfl,Z⟩;have Z:Q8 (G (Q d)) d w5:=(Below.rf d).drew.tn Z;go_wp2_with fail;refine(pr A n l t o r g a 17 17 (nC a.V) w5 (H4.o.below Z) (by decide) (by rw[iB];exact bM) bl).mono ?_;intro e w6 al;obtain⟨rfl,i⟩:=al.go;obtain⟨X,y⟩:=sV.end HH.o (C.o.tn Z) i (gC Z q u.o) (by have:=HR.o;omega);obtain⟨y0,y1,y2,y3,y4,bE⟩:=lB X;obtain⟨z0,z1,z2,z3,z4⟩:=oS X;obtain⟨D,E,F,M,S,-⟩:=lB y.out.1;clear i al f0 f1 ak F4 D4 d0 d1 a1 X Z c0 aE q;unfold oB at D E F M S;go_wp2_with fail;refine ai (v:=Rc #[Q9 #[Rh false,I Re 0,I Re 0,Q6 J 0 0,Q6 J 0 0],Rh false]) (by simp[results,results73,go_sem,D,E,F,M,S]) rfl ?_;rw[B.o];exact⟨_,rfl,rfl,y.out.2,fun h=>by cases h⟩
  .have bL:¬(v:Int)<=(a.V:Int):=by omega
   by_cases h2:a.V+1<v
   .have B:gy (a.delta body=(a.ki,J)):=gj (by unfold iy.delta;rw[s];simp only;rw[af h1,aw h2]);have bO:((a.V+1:Nat):Int)<(v:Int):=by omega
    clear s h1 h2;go_upto_region 5 with fail;go_region
    all_goals
     go_upto_region 7 with fail;go_region
     all_goals
      go_wp2_with fail;refine(nL A n l t o r g a d.drew.drew (H4.o.below ((Below.rf d).drew.drew)) bl (by omega)).mono ?_;intro e w6 al;obtain⟨rfl,i⟩:=al.go;have i:mr d A n l t o r g a.ki w6:=mr.first ((Below.rf d).drew.drew) i;obtain⟨X,y⟩:=sV.end HH.o C.o i u.o (by have:=HR.o;omega);obtain⟨y0,y1,y2,y3,y4,bE⟩:=lB X;obtain⟨z0,z1,z2,z3,z4⟩:=oS X;obtain⟨D,E,F,M,S,-⟩:=lB y.out.1;clear i al f0 f1 ak F4 D4 d0 d1 a1 X c0 aE q;unfold oB at D E F M S;go_wp2_with fail;refine ai (v:=Rc #[Q9 #[Rh false,I Re 0,I Re 0,Q6 J 0 0,Q6 J 0 0],Rh false]) (by simp[results,results73,go_sem,D,E,F,M,S]) rfl ?_;rw[B.o];exact⟨_,rfl,rfl,y.out.2,fun h=>by cases h⟩
   .have B:gy (a.delta body=(a,N (.delta v os))):=gj (by unfold iy.delta;rw[s];simp only;rw[af h1,af h2]);have bO:¬((a.V+1:Nat):Int)<(v:Int):=by omega
    clear s h1 h2;have bn:=Am (w:=d.drew.drew) u.o (Rh false) (I Re (v:Nat)) (I Re (v:Nat)) (Q6 U (O os) W) (Q6 J 0 0);have am:=yc d.drew.drew R (Rh false) (I Re (v:Nat)) (I Re (v:Nat)) (Q6 U (O os) W) (Q6 J 0 0);have bP:G (Q w)<=R:=by have:=HR.o;omega
    have a8:sV w A n l t o r g (a,N (.delta v os)) (Ra (Rc #[Q9 #[Rh false,I Re (v:Nat),I Re (v:Nat),Q6 U (O os) W,Q6 J 0 0],Rh true])) (oB d.drew.drew R (Rh false) (I Re (v:Nat)) (I Re (v:Nat)) (Q6 U (O os) W) (Q6 J 0 0)):=
     ⟨_,rfl,⟨_,rfl,gS.frame (w:=d.drew.drew) (gS.mono bk.o bi.o.size) am.size fun b e hb=>am.block b hb fun e2=>by have:=bk.o.ie b e;have:=gm a3.o;omega⟩,mr.done HH.o C.o ⟨o,g,H4.o.below ((Below.rf d).drew.drew),gR.gO ((Below.rf d).drew.drew),fun j e=>.inl e,fun j e=>.inl e⟩ am fun j hj=>by rw[hj];exact⟨bP,q⟩,fun _=>⟨g,(H4.o.below ((Below.rf d).drew.drew)).ext am (fun e=>by omega) (fun j e hj=>by have:=HH.o.lt j;have:=gS.iA HH.o.out.own j;rcases e with e|e|e|e<;>simp[e]at*<;>omega),fun j e=>.inl e⟩⟩
    have bH:=gj a8;have bS:=gj bn;have bo:gy ((d.drew.drew).heap[R]?=N (Q1 #[Rh false,I Re 0,I Re 0,Q6 J 0 0,Q6 J 0 0] 65 (0,0))):=gj u.o;have bX:gy ((d.drew.drew).heap[G (Q w2)]?=N (Q1 #[I Re (v:Nat),Q6 U (O os) W] 51 (0,0))):=gj D4;clear bn am a8 F4 D4;go_upto_region 5 with fail;go_region
    all_goals
     go_upto_region 7 with fail;go_region
     all_goals
      clear d0 d1 a1 f0 f1 ak c0 aE q;go_upto_region 2 with fail;generalize d.drew.drew=w5 at *
      obtain⟨y0,y1,y2,y3,y4,bB⟩:=lB bo.o;obtain⟨z0,z1,z2,z3,z4⟩:=oS bo.o;obtain⟨D,E,F,M,S,-⟩:=lB bS.o;obtain⟨d0,d1,a1⟩:=xc bX.o;unfold oB at D E F M S;go_wp2_with fail;refine ai (v:=Rc #[Q9 #[Rh false,I Re (v:Nat),I Re (v:Nat),Q6 U (O os) W,Q6 J 0 0],Rh true]) (by simp[results,results73,go_sem,D,E,F,M,S]) rfl ?_;rw[B.o];exact bH.o
end Go.Proofs.YtkkfmkhbdoeglabGreatDoor
