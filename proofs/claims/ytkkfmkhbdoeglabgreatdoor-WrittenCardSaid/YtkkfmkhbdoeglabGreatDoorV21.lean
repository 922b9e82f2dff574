/- Lemmas of the proof. No condition. -/
import Derived.Test.YtkkfmkhbdoeglabGreatDoorV20
set_option maxHeartbeats 8000000
set_option maxRecDepth 100000
namespace Go.Proofs.YtkkfmkhbdoeglabGreatDoor
open Go renaming World->Q0,Value->Q4,Calls->Rg
open Go.Ending renaming returned->Ra
open Go.IntKind renaming i64->Y,u64->Re
open Go.Obj renaming cells->Q1
open Go.RowKit renaming Below->Q8
open Go.Value renaming int->I,pointer->Q5,slice->Q6,string->Q7,iface->Rb,tuple->Rc,ownBlock->Rl
open Go.World renaming heap->Q,cell?->Rn,alloc->Ro,setCell->Rp
open List renaming length->O,toArray->Rm
open Option renaming none->J,some->N
open _root_.Array renaming size->G
open Go.Proofs.Tryz
open Go.RowKit Go.Shelf
variable{B h n s v:Nat}{C:Array Q4}{F G' M b d i:Nat->Prop}{H:gA}{P p:iM}{R:(gA×iM)×Option Nat}{S ever ever':List E}{a a1:iy}{armed:Bool}{e:Ending}{f:Nat×Nat}{g:jP}{l:List Int}{m:Option (Nat×Nat×List gw)}{maybe:List (Nat×List E)}{q:Q4}{tk:iV}{w w' w1:Q0}{x:AV}
theorem ji.drop{c:Nat}{x:HV}{B:Nat×Nat}(d:ji w F h x H)(hc:w.heap[c]?=N (Q1 C 191 B)):ji w (fun k=>F k/\k≠c) h x H:=by
 have ne:∀(v:Q4) (e:TypeId),gQ w v e->e≠191->∀k,Rl v=N k->k≠c:=fun v e E he k hk M=>by obtain⟨D,S,y⟩:=E k hk;rw[M,hc]at y;cases y;exact he rfl
 have nQ:∀v b,l8 w F v b->l8 w (fun k=>F k/\k≠c) v b:=fun v b h=>⟨h.1,h.2.1,fun k e=>⟨h.2.2 k e,ne v _ h.2.1 (by decide) k e⟩⟩;have rows:∀v rows,iX w F v rows->iX w (fun k=>F k/\k≠c) v rows:=fun v rows h=>by obtain⟨vals,h1,j,m,o⟩:=h;refine⟨vals,h1,j,fun k e=>⟨m k e,ne v _ j (by decide) k e⟩,fun i b q=>?_⟩;obtain⟨u,r,s⟩:=o i b q;exact⟨u,r,nQ u b s⟩
 have l:w.heap[h]?=_:=d.dp.row;obtain⟨f1,f2,f3⟩:=d.qL;refine⟨d.dp,d.fail,d.il,rows _ _ d.held,rows _ _ d.gG,?_,d.pV,⟨⟨f1,fun e=>?_⟩,⟨f2,fun e=>d.dp.jh.mZ hc e.symm⟩,fun k e=>⟨f3 k e,ne _ _ d.dp.qN (by decide) k e⟩⟩,fun k hk=>d.lt k hk.1⟩
 .obtain⟨vals,R,h1,j,m,o⟩:=d.gX;refine⟨vals,R,h1,j,fun k e=>⟨m k e,ne _ _ j (by decide) k e⟩,fun i b q=>?_⟩;obtain⟨u,r,s⟩:=o i b q;exact⟨u,r,nQ u _ s⟩
 .rw[e,hc]at l;cases l
theorem l5.Qp{D:Nat->Prop}{a:Nat}(ha:l5 w b d a h P x)(l:gR D w w')(u:∀k,b k->D k->k=x.lg)(E:∀k,d k->¬D k)(hl:jl w' x.lg h g):l5 w' b d a h {P with lg:=g} x:=by
 have m:=ha.iF;unfold jl at m;obtain⟨s,r,vals,h1,-⟩:=ha.out;have j:∀k C T o,b k->w.heap[k]?=N (Q1 C T o)->T≠305->¬D k:=fun k C T o hk i F q=>kK i m F (u k hk q);have y:∀k,b k->k≠x.lg->¬D k:=fun k hk B q=>B (u k hk q)
 exact⟨l.at (j a _ _ _ ha.ru.1 ha.row (by decide)) ha.row,ha.jh.iI (l.block _ ha.jh.lt (y _ ha.ru.2.1 fun e=>ha.jh.mZ m e.symm)),hl,ha.out.frame l (y _ ha.ru.2.2.2 fun e=>rb h1 m e.symm) E,
  ha.flt.frame l fun k C o hk i=>i.elim (fun i=>j k _ _ _ hk i (by decide)) fun i=>j k _ _ _ hk i (by decide),ha.me.frame l fun k C o hk i=>i.elim (fun i=>j k _ _ _ hk i (by decide)) fun i=>j k _ _ _ hk i (by decide),
  ha.ru,fun k hk=>ae (ha.glt k hk) l.size,fun k hk=>ae (ha.olt k hk) l.size,ha.sep⟩
theorem l5.Qr{a r:Nat}{T:List E}(ha:l5 w b d a h P x)(i:gR (fun j=>j=a) w w')(o:w'.heap[a]?=N (Q1 (AV.cells {x with r:=r} v h) 174 (0,0)))(m:iE w r T)(q:¬d r):
  l5 w' (fun k=>b k\/k=r) d a h {P with a:={P.a with V:=v,T:=T}} {x with r:=r}:=by
 obtain⟨s,u,vals,h1,-⟩:=ha.out;have l:=ha.iF;unfold jl at l;refine⟨o,m.iI (i.block _ m.lt fun e=>m.mZ ha.row e.symm),i.at (fun e=>kK ha.row l (by decide) e.symm) l,ha.out.frame i (fun e=>rb h1 ha.row e.symm) fun k hk e=>ha.sep a ha.ru.1 (e▸hk),(ha.Ah i).mono fun _=>.inl,(ha.Es i).mono fun _=>.inl,⟨.inl ha.ru.1,.inr rfl,.inl ha.ru.2.2.1,.inl ha.ru.2.2.2⟩,fun k hk=>?_,fun k hk=>ae (ha.olt k hk) i.size,fun k hk=>?_⟩
 .rcases hk with hk|hk
  .exact ae (ha.glt k hk) i.size
  .rw[hk];exact ae m.lt i.size
 .rcases hk with hk|hk
  .exact ha.sep k hk
  .rw[hk];exact q
def Ae(gf:Nat)(lb:Array Q4)(w:Q0)(x:AV)(F:Nat->Prop)(h:Nat)(L:gA×jP×Option Nat):Prop:=
 ∀W,Q8 (G (Q w)) w W->Rg prog gf lb W fun e W'=>∃b,e=Ra b/\Dd W W' b L.2.2/\jl W' x.lg h L.2.1/\kc W F (fun k=>k=x.lg) h L.1 W'
def vD(w:Q0)(F d i:Nat->Prop)(a h:Nat)(H:gA)(P:iM)(x:AV)(r v:Nat)(T:List E)(L:gA×jP×Option Nat)(e:Ending)(w':Q0):Prop:=
 match jG T H.dp.room (O H.gG),L with
 | some f,_=>∃b,e=Ra (Q5 (N ⟨b,0,none⟩))/\G (Q w)<=b/\w'.heap[b]?=N (Q1 #[I Y (f.1:Nat),I Y (f.2:Nat),.nilIface] 186 (0,0))/\Q8 (G (Q w)) w w'
 | none,(H1,g1,some s)=>∃b c F',e=Ra (Q5 (N ⟨b,0,none⟩))/\G (Q w)<=b/\G (Q w)<=c/\w'.heap[b]?=N (Q1 #[I Y 12,I Y 0,Rb 188 (Q5 (N ⟨c,0,none⟩))] 186 (0,0))/\w'.heap[c]?=N (Q1 #[I Y ((s:Int)-2)] 191 (0,0))/\
   jL w' F' d i a h H1 {P with lg:=g1} x/\(∀k,F' k->(F k\/G (Q w)<=k)/\k≠b/\k≠c)/\gR (fun k=>F k\/k=x.lg) w w'
 | none,(H1,g1,none)=>∃F',e=Ra (Q5 J)/\jL w' F' (fun k=>d k\/k=r) i a h (H1.qV T) ⟨{P.a with V:=v,T:=T},P.nQ,g1⟩ {x with r:=r}/\(∀k,F' k->F k\/G (Q w)<=k)/\gR (fun k=>F k\/k=x.lg\/k=a) w w'
theorem L8(a h:Nat)(F b d:Nat->Prop)(H:gA)(P:iM)(x:AV)(q r v:Nat)(T:List E)(gf:Nat)(lb:Array Q4)(e6:∀args w,(callFunc gf args).run prog w=.ok (.enter gf args) w)(L:gA×jP×Option Nat)(w:Q0)(hm:jL w F b d a h H P x)(he:jt w q 0 r T)(hq:¬F q/\¬b q)(hr:¬F r/\¬b r/\¬d r)(bA:jG T H.dp.room (O H.gG)=J->Ae gf lb w x F h L)(hn:8<=O H.gG/\O H.gG<=1000)(hT:O T<=100000000)(ce:jw T<=4611686018427387904)(bB:O L.1.dp.S<=100000000/\O L.1.dp.iF<=7500000000000/\L.1.dp.room=H.dp.room)(cg:∀y∈L.1.dp.S,O y.1.2<=im)(dv:∀y∈T,O y.1.2<=im/\O y.2<=im):
  Rg prog 189 #[Q5 (N ⟨a,0,J⟩),I Re (v:Nat),Q5 (N ⟨q,0,J⟩),.func (.func gf) #[] lb] w (vD w F b d a h H P x r v T L):=by
 obtain⟨hx,bc⟩:=hm.kQ;have ci:=gj (fun(W:Q0) (hW:Q8 (G (Q w)) w W)=>GP q 0 r h hx T W (he.below hW) (bc.dp.row.iI (hW.block h (gm bc.dp.row))) (by omega));have cl:=gj (fun(W:Q0) (hW:Q8 (G (Q w)) w W)=>NH q 0 r T W (he.below hW) ce);have cm:=gj (fun(W:Q0) (hW:Q8 (G (Q w)) w W)=>sj h F H W (hm.kQ.below hW));have am:=hm.ag.row;unfold AV.cells xi at am;have c3:=gr 3 am;have cn:=gm am;have bD:=he.cell;have c8:=gK bD;have co:=gj bc.dp.room;have D:=gj hm;have HE:=gj he;have dT:=gj bA;have eV:=rn h;have e0:=o4 h;clear hm he bA am bc;unfold xi at ci;go_enter func189,ntmps189;go_wp2
 go_region_held3 (fun w'=>Rn w' ⟨a,3,J⟩=N (Rb 116 (.agg #[Q5 (N ⟨h,0,J⟩)])))
  (first|exact c3|exact(l.o.cell (p:=⟨a,3,J⟩) cn).trans c3)
  (first|(go_at_call 106;refine(ci.o _ (by first|exact(Below.rf w).drew|exact Below.rf w)).mono ?_;rintro e w1 ⟨rfl,bH⟩;have l:gy (Q8 (G (Q w)) w w1):=gj (by first|exact bH|exact(Below.rf w).drew.tn bH);clear bH))
 cases Z:pT T H.dp.room with
 | some t=>
  obtain⟨o1,-⟩:=BB (S:=T) (room:=hx.room) (t:=t) (by rw[co.o];exact Z);rw[o1];have U:gy (jG T H.dp.room (O H.gG)=N (10,t)):=gj (by unfold jG;rw[Z]);clear Z o1;go_wp2_with fail;refine(lj 10 t w1).mono ?_;rintro e w2 ⟨rfl,bI⟩;have hb:Q8 (G (Q w1)) w1 w2:=by rw[bI];exact(Below.rf w1).alloc gH _
  have hn:w2.heap[G (Q w1)]?=N (Q1 #[I Y 10,I Y (t:Nat),.nilIface] 186 (0,0)):=by rw[bI];exact gB w1 _
  have HB:=gj (l.o.tn hb);have HN:=gj hn;clear hb hn bI;go_wp2;go_ret;unfold vD;rw[U.o];exact⟨_,rfl,l.o.size,HN.o,HB.o⟩
 | none=>
  rw[Bz (S:=T) (room:=hx.room) (by rw[co.o];exact Z)];have bi:=D.o.below l.o;have R:=bi.ag.row;unfold AV.cells xi at R;have c2:=gr 2 R;have ap:=bi.ag.iF;unfold jl at ap;have l0:=gr 0 ap;have bM:=gm ap;have bN:=gm R;have e1:=gj bi;obtain⟨n,bO⟩:∃n,n=O H.gG:=⟨_,rfl⟩;have cp:=gj bO;rw[<-bO]at cm hn;obtain⟨z,hz⟩:∃z,z=jw T:=⟨_,rfl⟩;have HZ:=gj hz;rw[<-hz]at cl ce;have bP:=gj Z;have dc:=(l.o.cell (p:=⟨q,0,J⟩) c8).trans bD;have em:=gK dc;clear bi R ap bO hz Z c3 bD cn;go_wp2
  go_region_held3 (fun w'=>Rn w' ⟨a,2,J⟩=N (Q5 (N ⟨x.lg,0,J⟩))/\Rn w' ⟨x.lg,0,J⟩=N (Rb 217 (.agg #[Q5 (N ⟨h,0,J⟩)])))
   (first|exact⟨c2,l0⟩|exact⟨(C.o.cell (p:=⟨a,2,J⟩) bN).trans c2,(C.o.cell (p:=⟨x.lg,0,J⟩) bM).trans l0⟩)
   (first
     | (go_at_call 205;refine(cl.o _ (by first|exact l.o.tn (Below.rf w1).drew|exact l.o.tn C.o)).mono ?_;rintro e w2 ⟨rfl,X⟩;have C:gy (Q8 (G (Q w1)) w1 w2):=gj (by first|exact(Below.rf w1).drew.tn X|exact C.o.tn X);clear X)
     | (go_at_call 251;refine(cm.o _ (by first|exact l.o.tn (Below.rf w1).drew|exact l.o.tn C.o)).mono ?_;rintro e w2 ⟨rfl,X⟩;have C:gy (Q8 (G (Q w1)) w1 w2):=gj (by first|exact(Below.rf w1).drew.tn X|exact C.o.tn X);clear X))
  all_goals
   rw[show IntKind.i64.wrap ((n:Int)-8)=((n-8:Nat):Int) by rw[show(n:Int)-8=((n-8:Nat):Int) by omega];exact IntWalk.i64_in _ (by omega),show IntKind.i64.wrap (16*((n-8:Nat):Int))=((16*(n-8):Nat):Int) by rw[show 16*((n-8:Nat):Int)=((16*(n-8):Nat):Int) by omega];exact IntWalk.i64_in _ (by omega)];obtain⟨m,bR⟩:∃m,m=16*(n-8):=⟨_,rfl⟩;have cq:=gj bR;rw[<-bR];have u:=gj (l.o.tn C.o);clear bR c2 l0 bM bN;by_cases bk:m<z
   .have dk:(m:Int)<(z:Int):=by omega
    have U:gy (jG T H.dp.room (O H.gG)=N (11,0)):=gj (by unfold jG;rw[bP.o];simp only;rw[aw (by rw[<-cp.o,<-cq.o,<-HZ.o];exact bk)]);clear bk;go_wp2_with fail;refine(lj 11 0 w2).mono ?_;rintro e w3 ⟨rfl,bS⟩;have hb:Q8 (G (Q w2)) w2 w3:=by rw[bS];exact(Below.rf w2).alloc gH _
    have a2:w3.heap[G (Q w2)]?=N (Q1 #[I Y 11,I Y 0,.nilIface] 186 (0,0)):=by rw[bS];exact gB w2 _
    have HB:=gj (u.o.tn hb);have HN:=gj a2;clear hb a2 bS;go_wp2;go_ret;unfold vD;rw[U.o];exact⟨_,rfl,u.o.size,HN.o,HB.o⟩
   .have dk:¬(m:Int)<(z:Int):=by omega
    have U:gy (jG T H.dp.room (O H.gG)=J):=gj (by unfold jG;rw[bP.o];simp only;rw[af (by rw[<-cp.o,<-cq.o,<-HZ.o];exact bk)]);clear bk;go_wp2_with fail;refine(dT.o U.o w2 u.o).mono ?_;rintro e w3 ⟨rv,rfl,bX,bl,d4⟩;obtain⟨H1,g1,rf⟩:=L;obtain⟨F3,aa,a3,ak⟩:=d4;have b0:=D.o.below u.o;have e2:=u.o.size;have a4:l5 w3 b d a h {P with lg:=g1} x:=b0.ag.Qp ak (fun k hk hD=>hD.elim (fun e=>absurd hk (D.o.fg k e)) id) (fun k hk hD=>hD.elim (fun e=>D.o.fo k e hk) fun e=>D.o.ag.sep x.lg D.o.ag.ru.2.2.1 (e▸hk)) bl;have aE:gR (fun k=>F k\/k=x.lg) w w3:=(gR.gO u.o).trans ak;have bn:∀k,F3 k->¬b k:=fun k hk M=>(a3 k hk).elim (fun e=>D.o.fg k e M) fun e=>by have:=D.o.ag.glt k M;omega
    have bo:∀k,F3 k->¬d k:=fun k hk M=>(a3 k hk).elim (fun e=>D.o.fo k e M) fun e=>by have:=D.o.ag.olt k M;omega
    have br:∀k,F3 k->F k\/G (Q w)<=k:=fun k hk=>(a3 k hk).imp id fun e=>by omega
    simp only at bX bl aa bB cg;cases rf with
    | some s=>
     obtain⟨c,rfl,e3,b1⟩:=bX;have a0:=aa.lt;have cr:jL w3 (fun k=>F3 k/\k≠c) b d a h H1 {P with lg:=g1} x:=by obtain⟨e4,dn⟩:=aa;exact⟨⟨_,dn.drop b1⟩,a4,fun k hk=>bn k hk.1,fun k hk=>bo k hk.1⟩
     have d5:=gj cr;have a5:=gj aE;have a6:=gj (show ∀k,F3 k/\k≠c->(F k\/G (Q w)<=k)/\k≠G (Q w3)/\k≠c from fun k hk=>⟨br k hk.1,fun e=>by have:=a0 k hk.1;omega,hk.2⟩);have HC:=gj b1;have d7:=gj (show(G (Q w))<=c by omega);clear ak a3 b0 a4 aE bn bo br aa cr a0 b1 bl;go_wp2_with fail;refine(Ba c w3).mono ?_;rintro e w4 ⟨rfl,b2⟩;have hb:Q8 (G (Q w3)) w3 w4:=by rw[b2];exact(Below.rf w3).alloc gH _
     have a2:w4.heap[G (Q w3)]?=N (Q1 #[I Y 12,I Y 0,Rb 188 (Q5 (N ⟨c,0,J⟩))] 186 (0,0)):=by rw[b2];exact gB w3 _
     have HB:=gj hb;have HN:=gj a2;clear hb a2 b2;go_wp2;go_ret;unfold vD;rw[U.o];exact⟨_,c,_,rfl,a5.o.size,d7.o,HN.o,gC HB.o (gm HC.o) HC.o,d5.o.below HB.o,a6.o,a5.o.trans (gR.gO HB.o)⟩
    | none=>
     obtain rfl:rv=.nilIface:=bX;have b3:=ak.cell (p:=⟨q,0,J⟩) (show ¬(F q\/q=x.lg)from fun e=>e.elim hq.1 fun e=>hq.2 (e▸D.o.ag.ru.2.2.1)) ((u.o.cell (p:=⟨q,0,J⟩) HE.o.lt).trans HE.o.cell);have cd:=gK b3;have cs:=(HE.o.below u.o).jh.iI (ak.block r ((HE.o.below u.o).jh.lt) (fun e=>e.elim hr.1 fun e=>hr.2.1 (e▸D.o.ag.ru.2.2.1)));have i:=a4.row;unfold AV.cells xi at i;have c0:=gr 0 i;have c1:=gr 1 i;have z0:=gD 0 i;have z1:=gD 1 i;have a0:=gm i;have bs:=gj a4;have bt:=gj cs;have d9:=gj aa;have a5:=gj aE;have a6:=gj br;have b4:=gj bn;have ct:=gj bo;clear ak a3 b0 a4 aE bn bo br aa bl i cs;go_wp2;have al:gR (fun k=>k=a) w3 ((Rp w3 ⟨a,0,J⟩ (.map (N r))).setCell ⟨a,1,J⟩ (I Re (v:Nat))):=((gR.refl (fun k=>k=a) w3).setCell ⟨a,0,J⟩ _ (.inl rfl)).setCell ⟨a,1,J⟩ _ (.inl rfl);have bv:((Rp w3 ⟨a,0,J⟩ (.map (N r))).setCell ⟨a,1,J⟩ (I Re (v:Nat))).heap[a]?=N (Q1 (AV.cells {x with r:=r} v h) 174 (0,0)):=QN _ _ 1 _ (QN _ _ 0 _ bs.o.row);generalize (Rp w3 ⟨a,0,J⟩ (.map (N r))).setCell ⟨a,1,J⟩ (I Re (v:Nat))=W1 at al bv⊢;have a7:=bs.o.Qr (v:=v) (T:=T) al bv bt.o hr.2.2;have a9:¬F3 a:=fun e=>b4.o a e bs.o.ru.1;have cu:=d9.o.ext al (fun k hk e=>a9 (e▸hk));have eS:=cu.lt;obtain⟨bw,j⟩:=cu;have en:r<G (Q w):=HE.o.jh.lt;have ba:¬F3 r:=fun e=>(a6.o r e).elim hr.1 fun e=>by omega
     obtain⟨f1,f2,f3⟩:=j.qL;have B:=bv;unfold AV.cells xi at B;have d0:=gr 0 B;have d3:=gr 3 B;have eT:=gm B;have cv:=gj (Dl 0 a 0 r h bw H1.dp T W1.drew ⟨d0,(bt.o.iI (al.block _ bt.o.lt fun e=>bt.o.mZ bs.o.row e.symm)).iI rfl⟩ ⟨j.dp.row,j.dp.left,j.dp.ir,j.dp.room,j.dp.jh.iI rfl,j.dp.own.below ((Below.rf W1).drew),j.dp.qN,j.dp.lo,j.dp.lb⟩ hT bB.1 bB.2.1 cg dv ux (fun e=>a9 (e▸f1)) (fun e=>a9 (f3 a e)) (fun e=>ba (e▸f2)));have eb:=gj j;have cB:=gj al;have b6:=gj a7;have ds:=gj (show ∀k,(k=h\/k=bw.r\/Rl bw.iF=N k)->F3 k from fun k e=>by
      rcases e with e|e|e
      .rw[e];exact f1
      .rw[e];exact f2
      .exact f3 k e)
     clear al bv a7 j f1 f2 f3 B c0 c1 z0 z1 a0 b3 cd;unfold xi at cv;go_still_tail 7,(by kernel_rfl);go_wp2_with fail;refine cv.o.mono ?_;rintro e w5 ⟨rfl,c4⟩;have bb:qa W1 0 h bw (H1.dp.run (lU H1.dp.S T)) w5:=qa.iN ((Below.rf W1).drew) c4;obtain⟨F5,c5,bx,-⟩:=eb.o.brought bb;have b8:gR (fun k=>F3 k) W1 w5:=bb.2.mono ds.o;have b9:=b6.o.olt;have ca:=b6.o.glt;have c6:jL w5 F5 (fun k=>b k\/k=r) d a h (H1.qV T) ⟨{P.a with V:=v,T:=T},P.nQ,g1⟩ {x with r:=r}:=by
      refine⟨c5,b6.o.frame b8 (fun k hk e=>?_) (fun k hk e=>ct.o k e hk),fun k hk M=>?_,fun k hk hO=>?_⟩
      .rcases hk with hk|hk
       .exact b4.o k e hk
       .exact ba (hk▸e)
      .rcases bx k hk with e|e
       .rcases M with M|M
        .exact b4.o k e M
        .exact ba (M▸e)
       .have:=ca k M;omega
      .rcases bx k hk with e|e
       .exact ct.o k e hO
       .have:=b9 k hO;omega
     have eg:=gj c6;have ej:=gj (show ∀k,F5 k->F k\/G (Q w)<=k from fun k hk=>(bx k hk).elim (a6.o k) fun e=>.inr (by have:=a5.o.size;have:=cB.o.size;omega));have el:=gj (show gR (fun k=>F k\/k=x.lg\/k=a) w w5 from((a5.o.mono fun k e=>e.imp id .inl).trans (cB.o.mono fun k e=>.inr (.inr e))).j8 b8 fun k e=>(a6.o k e).imp .inl id);clear c4 bb c5 bx b8 b9 ca c6;go_wp2;go_ret;unfold vD;rw[U.o];exact⟨_,rfl,eg.o,ej.o,el.o⟩
theorem jL.xE{a:Nat}(hm:jL w F d i a h H P x)(B b:Nat)(f:Nat×Nat)(s:Nat)(j:gR (fun k=>k=a) w w')(o:w'.heap[a]?=N (Q1 (AV.cells {x with fp:=Q5 (N ⟨b,0,J⟩)} P.a.V h) 174 (0,0)))(m:B<=b/\¬F b/\¬i b)(D:(f.1≠12/\w.heap[b]?=N (Q1 #[I Y (f.1:Nat),I Y (f.2:Nat),.nilIface] 186 (0,0)))\/(f.1=12/\∃c,(B<=c/\¬F c/\¬i c)/\w.heap[b]?=N (Q1 #[I Y (f.1:Nat),I Y (f.2:Nat),Rb 188 (Q5 (N ⟨c,0,J⟩))] 186 (0,0))/\w.heap[c]?=N (Q1 #[I Y ((s:Int)-2)] 191 (0,0)))):
  jL w' F (fun k=>d k\/(B<=k/\k<G (Q w)/\¬F k/\¬i k)) i a h H ⟨{P.a with l4:=N f},s,P.lg⟩ {x with fp:=Q5 (N ⟨b,0,J⟩)}:=by
 have r:=hm.ag.row;have u:∀k,F k->k≠a:=fun k hk e=>hm.fg k hk (e▸hm.ag.ru.1);refine⟨hm.kQ.ext j fun k hk e=>u k hk e,hm.ag.oK j o rfl rfl rfl rfl rfl rfl (fun k=>.inl) (fun k hk=>?_) ?_ ((hm.ag.Es j).mono fun _=>.inl),fun k hk E=>E.elim (hm.fg k hk) fun e=>e.2.2.1 hk,hm.fo⟩
 .rcases hk with hk|hk
  .exact⟨ae (hm.ag.glt k hk) j.size,hm.ag.sep k hk⟩
  .exact⟨ae hk.2.1 j.size,hk.2.2.2⟩
 .have ha:∀(k:Nat) (C:Array Q4) (T:TypeId) (q:Nat×Nat),w.heap[k]?=N (Q1 C T q)->T≠174->w'.heap[k]?=N (Q1 C T q):=fun k C T q hk M=>j.at (fun e=>kK hk r M e) hk;rcases D with ⟨h1,l⟩|⟨h1,c,hc,l,y⟩
  .exact⟨b,rfl,.inr ⟨m.1,gm l,m.2⟩,.inl ⟨h1,ha _ _ _ _ l (by decide)⟩⟩
  .exact⟨b,rfl,.inr ⟨m.1,gm l,m.2⟩,.inr ⟨h1,c,.inr ⟨hc.1,gm y,hc.2⟩,ha _ _ _ _ l (by decide),ha _ _ _ _ y (by decide)⟩⟩
theorem I0{T:List E}{room:Nat->Int}(h:jG T room n=N f):f.1≠12/\f.1<256:=by
 unfold jG at h;split at h
 .cases h;simp
 .split at h
  .cases h;simp
  .cases h
def su(H:gA)(P:iM)(v:Nat)(T:List E)(L:gA×jP×Option Nat):gA×iM:=
 match jG T H.dp.room (O H.gG),L with
 | some f,_=>(H,{P with a:=P.a.jZ f,nQ:=0})
 | none,(H1,g1,some s)=>(H1,⟨P.a.jZ (12,0),s,g1⟩)
 | none,(H1,g1,none)=>(H1.qV T,⟨iy.oO {P.a with V:=v,T:=T},P.nQ,g1⟩)
theorem jL.th{j:Nat->Prop}{a:Nat}{H1:gA}{o P':iM}{l:AV}(b:jL w1 j d i a h H1 o l)(q:∀k,j k\/d k\/i k->M k\/G (Q w)<=k)(m:gR M w w1)(r:nR w1 d i a h P' l w'):nS w M a h H1 P' w':=by obtain⟨s,h1,u,x⟩:=tC.Lp (M:=fun k=>M k\/G (Q w)<=k) b q (r.go b.ag.ru.2.2.2);exact⟨s,h1,fun k hk=>(u k hk).elim id fun e=>.inr (au m.size e),m.j8 x fun k hk=>hk⟩
theorem AE(a h:Nat)(F d i M:Nat->Prop)(H:gA)(P:iM)(x:AV)(q r v:Nat)(T:List E)(gf:Nat)(lb:Array Q4)(eg:∀args w,(callFunc gf args).run prog w=.ok (.enter gf args) w)(L:gA×jP×Option Nat)(w:Q0)(hm:jL w F d i a h H P x)(hM:∀k,F k\/d k\/i k->M k)(he:jt w q 0 r T)(hq:¬F q/\¬d q)(hr:¬F r/\¬d r/\¬i r)(a2:jG T H.dp.room (O H.gG)=J->Ae gf lb w x F h L)(hn:8<=O H.gG/\O H.gG<=1000)(hT:O T<=100000000)(bv:jw T<=4611686018427387904)(bw:O L.1.dp.S<=100000000/\O L.1.dp.iF<=7500000000000/\L.1.dp.room=H.dp.room)(bx:∀y∈L.1.dp.S,O y.1.2<=im)(bz:∀y∈T,O y.1.2<=im/\O y.2<=im)(bi:P.a.l4=J)(hv:v<18446744073709551616):
  Rg prog 153 #[Q5 (N ⟨a,0,J⟩),I Re (v:Nat),Q5 (N ⟨q,0,J⟩),.func (.func gf) #[] lb] w fun e w'=>e=Ra (Rc #[])/\nS w (fun k=>M k\/k=r) a h (su H P v T L).1 (su H P v T L).2 w':=by
 have bA:=gj (L8 a h F d i H P x q r v T gf lb eg L w hm he hq hr a2 hn hT bv bw bx bz);have HM:=gj hm;have u:=gj hM;have a3:x.fp=Q5 J:=by have:=hm.ag.flt;rw[bi]at this;exact this
 obtain⟨R,hR⟩:∃R,R=su H P v T L:=⟨_,rfl⟩;have HR:=gj hR;rw[<-hR];clear hm hM he a2 hR;go_enter func153,ntmps153;go_wp2_with fail;refine bA.o.mono ?_;rintro e w1 al;unfold vD at al;cases U:jG T H.dp.room (O H.gG) with
 | some f=>
  rw[U]at al;have am:=gj U;obtain⟨b,rfl,a4,D,a5⟩:=al;have l:=HM.o.below a5;have j:=l.ag.row;have bn:=D;obtain⟨bB,bo⟩:=I0 U;unfold AV.cells at j;have c5:=gr 5 j;have z5:=gD 5 j;have bb:=gm j;have B:gR (fun k=>k=a) w1 (Rp w1 ⟨a,5,J⟩ (Q5 (N ⟨b,0,J⟩))):=(gR.refl (fun k=>k=a) w1).setCell ⟨a,5,J⟩ _ (.inl rfl);have C:(Rp w1 ⟨a,5,J⟩ (Q5 (N ⟨b,0,J⟩))).heap[a]?=N (Q1 (AV.cells {x with fp:=Q5 (N ⟨b,0,J⟩)} P.a.V h) 174 (0,0)):=QN _ _ 5 _ l.ag.row;have W:=l.xE (G (Q w)) b f 0 B C ⟨a4,fun e=>by have:=HM.o.kQ.lt b e;omega,fun e=>by have:=HM.o.ag.olt b e;omega⟩ (.inl ⟨bB,D⟩);have a6:b≠a:=kK D l.ag.row (by decide);have Z:=B.at (fun e=>a6 e) D;have f0:=gr 0 Z;have m:=C;unfold AV.cells at m;have e5:=gr 5 m;have bs:=gm Z;have a7:=gm m;have X:=gj W;have ap:=gj ((gR.gO a5).trans (B.mono fun k e=>(.inl (u.o k (.inr (.inl (e▸HM.o.ag.ru.1)))):M k\/k=r)):gR (fun k=>M k\/k=r) w _);clear l j D bn a5 B C W m Z;go_wp2_with fail;refine(pw a h f.1 _ _ _ _ _ X.o.ag bo).mono ?_;rintro e w3 ⟨rfl,hp⟩;have HG:=gj (jL.th (M:=fun k=>M k\/k=r) X.o (fun k hk=>by
   rcases hk with hk|(hk|hk)|hk
   .exact .inl (.inl (u.o k (.inl hk)))
   .exact .inl (.inl (u.o k (.inr (.inl hk))))
   .exact .inr hk.1
   .exact .inl (.inl (u.o k (.inr (.inr hk))))) ap.o hp)
  have aE:gy (R=(H,{P with a:=P.a.jZ f,nQ:=0})):=gj (by rw[HR.o];unfold su;rw[am.o]);clear hp;go_wp2;refine ai (ef rfl _ _ _) rfl ?_;refine⟨rfl,?_⟩;rw[aE.o];exact HG.o
 | none=>
  rw[U]at al;have am:=gj U;clear U;obtain⟨H1,g1,rf⟩:=L;cases rf with
  | some s=>
   obtain⟨b,c,F',rfl,a4,bD,D,bc,l,aa,a0⟩:=al;have j:=l.ag.row;unfold AV.cells at j;have c5:=gr 5 j;have z5:=gD 5 j;have bb:=gm j;have B:gR (fun k=>k=a) w1 (Rp w1 ⟨a,5,J⟩ (Q5 (N ⟨b,0,J⟩))):=(gR.refl (fun k=>k=a) w1).setCell ⟨a,5,J⟩ _ (.inl rfl);have C:(Rp w1 ⟨a,5,J⟩ (Q5 (N ⟨b,0,J⟩))).heap[a]?=N (Q1 (AV.cells {x with fp:=Q5 (N ⟨b,0,J⟩)} P.a.V h) 174 (0,0)):=QN _ _ 5 _ l.ag.row;have a9:=HM.o.ag.olt;have W:=l.xE (G (Q w)) b (12,0) s B C ⟨a4,fun e=>(aa b e).2.1 rfl,fun e=>by have:=a9 b e;omega⟩ (.inr ⟨rfl,c,⟨bD,fun e=>(aa c e).2.2 rfl,fun e=>by have:=a9 c e;omega⟩,D,bc⟩);have a6:b≠a:=kK D l.ag.row (by decide);have Z:=B.at (fun e=>a6 e) D;have f0:=gr 0 Z;have m:=C;unfold AV.cells at m;have e5:=gr 5 m;have bs:=gm Z;have a7:=gm m;have X:=gj W;have ak:=HM.o.ag.ru;have ap:=gj (((a0.mono fun k e=>by
    rcases e with e|e
    .exact .inl (u.o k (.inl e))
    .exact .inl (u.o k (.inr (.inl (e▸ak.2.2.1))))).trans (B.mono fun k e=>(.inl (u.o k (.inr (.inl (e▸ak.1)))):M k\/k=r))):gR (fun k=>M k\/k=r) w _)
   have ba:=gj aa;clear l j D bc a0 B C W m Z aa;go_wp2_with fail;refine(pw a h 12 _ _ _ _ _ X.o.ag (by omega)).mono ?_;rintro e w3 ⟨rfl,hp⟩;have HG:=gj (jL.th (M:=fun k=>M k\/k=r) X.o (fun k hk=>by
    rcases hk with hk|(hk|hk)|hk
    .exact(ba.o k hk).1.imp (fun e=>.inl (u.o k (.inl e))) id
    .exact .inl (.inl (u.o k (.inr (.inl hk))))
    .exact .inr hk.1
    .exact .inl (.inl (u.o k (.inr (.inr hk))))) ap.o hp)
   have aE:gy (R=(H1,⟨P.a.jZ (12,0),s,g1⟩)):=gj (by rw[HR.o];unfold su;rw[am.o]);clear hp;go_wp2;refine ai (ef rfl _ _ _) rfl ?_;refine⟨rfl,?_⟩;rw[aE.o];exact HG.o
  | none=>
   obtain⟨F',rfl,l,aa,a0⟩:=al;have j:=l.ag.row;unfold AV.cells at j;have c5:=gr 5 j;have z5:=gD 5 j;have bb:=gm j;have B:gR (fun k=>k=a) w1 (Rp w1 ⟨a,5,J⟩ (Q5 J)):=(gR.refl (fun k=>k=a) w1).setCell ⟨a,5,J⟩ _ (.inl rfl);have C:(Rp w1 ⟨a,5,J⟩ (Q5 J)).heap[a]?=N (Q1 (AV.cells {x with r:=r} v h) 174 (0,0)):=by
    have h1:=QN _ _ 5 (Q5 J) l.ag.row;have e:(AV.cells {x with r:=r} v h).setIfInBounds 5 (Q5 J)=AV.cells {x with r:=r} v h:=by unfold AV.cells;simp only[a3];rfl
    exact h1.trans (bm (fun z=>N (Q1 z 174 (0,0))) e)
   have ak:=HM.o.ag.ru;have W:jL (Rp w1 ⟨a,5,J⟩ (Q5 J)) F' (fun k=>d k\/k=r) i a h (H1.qV T) ⟨{P.a with V:=v,T:=T},P.nQ,g1⟩ {x with r:=r}:=by refine⟨l.kQ.ext B fun k hk e=>l.fg k hk (.inl (e▸ak.1)),l.ag.oK B C rfl rfl rfl rfl rfl rfl (fun _=>id) (fun k hk=>⟨ae (l.ag.glt k hk) B.size,l.ag.sep k hk⟩) (l.ag.Ah B) (l.ag.Es B),l.fg,l.fo⟩
   have m:=C;unfold AV.cells at m;have e5:=gr 5 m;rw[a3]at e5;have a7:=gm m;have X:=gj W;have ap:=gj (((a0.mono fun k e=>by
    rcases e with e|e|e
    .exact .inl (u.o k (.inl e))
    .exact .inl (u.o k (.inr (.inl (e▸ak.2.2.1))))
    .exact .inl (u.o k (.inr (.inl (e▸ak.1))))).trans (B.mono fun k e=>(.inl (u.o k (.inr (.inl (e▸ak.1)))):M k\/k=r))):gR (fun k=>M k\/k=r) w _)
   have ba:=gj aa;clear l j a0 B C W m aa;go_wp2_with fail;refine(tG a h _ _ _ _ _ X.o.ag hv).mono ?_;rintro e w3 ⟨rfl,hp⟩;have HG:=gj (jL.th (M:=fun k=>M k\/k=r) X.o (fun k hk=>by
    rcases hk with hk|(hk|hk)|hk
    .exact(ba.o k hk).imp (fun e=>.inl (u.o k (.inl e))) id
    .exact .inl (.inl (u.o k (.inr (.inl hk))))
    .exact .inl (.inr hk)
    .exact .inl (.inl (u.o k (.inr (.inr hk))))) ap.o hp)
   have aE:gy (R=(H1.qV T,⟨iy.oO {P.a with V:=v,T:=T},P.nQ,g1⟩)):=gj (by rw[HR.o];unfold su;rw[am.o]);clear hp;go_wp2;go_end0;refine⟨rfl,?_⟩;rw[aE.o];exact HG.o
structure oG(n:Nat)(l:List Int)(s:Nat)(H:gA)(P:Option iM)(a:iy)(maybe:List (Nat×List E))(ever:List E)(armed:Bool):Prop where
 may:Fu n H s fun v T=>(v,T)∈maybe
 tabs:∀m∈maybe,ng n (gY l) m.1 m.2
 uniq:∀m∈maybe,∀k∈maybe,m.1=k.1->m=k
 everT:∀m∈maybe,∀x∈m.2,x∈ever
 everD:∀x∈H.dp.S,x∈ever
 sorted:gM H.dp.S
 room:H.dp.room=gY l
 arm:0<=H.fail->armed=true
 self:(a.V,a.T)∈maybe
 up:∀p,P=N p->H.dp.ir=false->p.a=a/\p.lg.gF<=s/\H.dp.S=a.T/\(a.l4=J->qP n l H p/\maybe=[(a.V,a.T)]/\p.nQ=0)/\(∀f,a.l4=N f->(f.1=12↔1<=p.nQ))
theorem oG.mono{t:Nat}{P:Option iM}(h:oG n l s H P a maybe ever armed)(d:s<=t)(he:∀x∈ever,x∈ever'):oG n l t H P a maybe ever' armed:=
 ⟨h.may.mono d fun _ _ h=>h,h.tabs,h.uniq,fun m hm x b=>he x (h.everT m hm x b),fun x b=>he x (h.everD x b),h.sorted,h.room,h.arm,h.self,fun p i j=>by obtain⟨h1,q,o⟩:=h.up p i j;exact⟨h1,by omega,o⟩⟩
theorem pb.il{T:List E}(h:pb n H g v T)(k:Int)(b:Int)(d:Int)(lg:List gw):pb n {H with il:=k,fail:=d,dp:={H.dp with left:=b,iF:=lg}} g v T:=⟨h.gG,h.gX,h.len,h.stamps,h.inv,h.next,h.ir⟩
theorem qP.oK(h:qP n l H P)(k:Int)(b:Int)(d:Int)(lg:List gw):qP n l {H with il:=k,fail:=d,dp:={H.dp with left:=b,iF:=lg}} P:=⟨h.tB.il k b d lg,h.dpS,h.room,h.jh,h.l4⟩
theorem oG.oK{P:Option iM}(h:oG n l s H P a maybe ever armed)(k d b:Int)(lg:List gw)(armed':Bool)(ha:0<=b->armed'=true):oG n l s {H with il:=k,fail:=b,dp:={H.dp with left:=d,iF:=lg}} P a maybe ever armed':=
 ⟨h.may,h.tabs,h.uniq,h.everT,h.everD,h.sorted,h.room,ha,h.self,fun p j m=>by obtain⟨h1,o,q,i,r⟩:=h.up p j m;exact⟨h1,o,q,fun e=>⟨(i e).1.oK k d b lg,(i e).2⟩,r⟩⟩
theorem oG.own(h:oG n l s H (N p) a maybe ever armed)(h1:a1.V=a.V)(b:a1.T=a.T)(d:a1.l4=a.l4):oG n l s H (N {p with a:=a1}) a1 maybe ever armed:=
 ⟨h.may,h.tabs,h.uniq,h.everT,h.everD,h.sorted,h.room,h.arm,by rw[h1,b];exact h.self,fun q hq j=>by cases hq;obtain⟨g1,g2,i,g5,g6⟩:=h.up p rfl j;refine⟨rfl,g2,by rw[b];exact i,fun e=>?_,fun f e=>g6 f (by rw[<-d];exact e)⟩;obtain⟨u,u2,u3⟩:=g5 (by rw[<-d];exact e);have u1:=u.tB;rw[g1,<-h1,<-b]at u1;have ut:=u.jh;rw[g1,<-h1,<-b]at ut;exact⟨⟨u1,by rw[b];exact i,u.room,ut,e⟩,by rw[h1,b];exact u2,u3⟩⟩
theorem oG.Mx{frame:gw}(h:oG n l s H (N p) a maybe ever armed)(d:H.dp.ir=false)(b:a.taken frame=(a1,J)):
  mn H p frame=(H,{p with a:=a1})/\oG n l s H (N {p with a:=a1}) a1 maybe ever armed:=by
 obtain⟨g1,-⟩:=h.up p rfl d;obtain⟨h1,i,j⟩:=xe b;refine⟨?_,h.own h1 i j⟩;unfold mn;rw[g1,b]
theorem oG.full{frame:gw}(h:oG n l s H (N p) a maybe ever armed)(j:H.dp.ir=false)(m:a.taken frame=(a1,N tk))(hl:jG (tk.T a1.T) (gY l) n=N f):
  mn H p frame=(H,⟨a1.jZ f,0,p.lg⟩)/\a1.jO tk (gY l) n=a1.jZ f/\a1.done tk (gY l) n=[]/\oG n l s H (N ⟨a1.jZ f,0,p.lg⟩) (a1.jZ f) maybe ever armed:=by
 obtain⟨g1,g2,x,g5,g6⟩:=h.up p rfl j;have b:=h.tabs _ h.self;obtain⟨t1,t2,t3,t4,t5,t6⟩:=rT m b.sorted b.mH p.nQ p.lg;obtain⟨u,u2,u3⟩:=g5 t1;have d:O H.gG=n:=by rw[u.tB.gG,u.tB.len]
 have i:f.1≠12:=by
  unfold jG at hl;split at hl
  .cases hl;show(10:Nat)≠12;decide
  .split at hl
   .cases hl;show(11:Nat)≠12;decide
   .cases hl
 obtain⟨o,y,r⟩:=lN {a1 with l4:=N f} 18 [UInt8.ofNat f.1];refine⟨?_,?_,?_,?_⟩
 .unfold mn;rw[g1,m];simp only;unfold nz;simp only[h.room,d,hl]
 .unfold iy.jO;rw[hl]
 .unfold iy.done;rw[hl]
 .refine⟨h.may,h.tabs,h.uniq,h.everT,h.everD,h.sorted,h.room,h.arm,?_,fun q hq j=>?_⟩
  .rw[show(a1.jZ f).V=a.V from y.trans t2,show(a1.jZ f).T=a.T from r.trans t3];exact h.self
  .cases hq;refine⟨rfl,g2,x.trans ((show(a1.jZ f).T=a.T from r.trans t3)).symm,fun e=>?_,fun k e=>?_⟩
   .rw[show(a1.jZ f).l4=N f from o]at e;cases e
   .rw[show(a1.jZ f).l4=N f from o]at e;cases e;exact⟨fun e=>absurd e i,fun(e:1<=0)=>by omega⟩
theorem oG.jO{frame:gw}(h:oG n l s H (N p) a maybe ever armed)(hn:32<=n/\n<=128)(hs:s+2<18446744073709551616)(hd:H.dp.ir=false)(ht:a.taken frame=(a1,N tk))(hl:jG (tk.T a1.T) (gY l) n=J)(he:∀x,x∈ever\/x∈tk.T a1.T->x∈ever'):
  ∃H' p',mn H p frame=(H',p')/\(a1.jO tk (gY l) n).l4=J/\
   (H'.dp.ir=true->oG n l (s+2) H' (N p') a1 [(a1.V,a1.T),((a1.jO tk (gY l) n).V,(a1.jO tk (gY l) n).T)] ever' armed/\∀x∈H'.dp.S,x∈ever')/\
   (H'.dp.ir=false->
     (p'.a=a1.jO tk (gY l) n/\p'.nQ=0/\H'.dp.iF=H.dp.iF++a1.done tk (gY l) n/\oG n l (s+2) H' (N p') (a1.jO tk (gY l) n) [((a1.jO tk (gY l) n).V,(a1.jO tk (gY l) n).T)] ever' armed)\/
     (p'.a=a1.jZ (12,0)/\1<=p'.nQ/\armed=true/\H'.dp.iF=H.dp.iF/\oG n l (s+2) H' (N p') (a1.jZ (12,0)) [(a1.V,a1.T),((a1.jO tk (gY l) n).V,(a1.jO tk (gY l) n).T)] ever' armed)):=by
 obtain⟨g1,g2,g3,g5,g6⟩:=h.up p rfl hd;have y:=h.tabs _ h.self;obtain⟨t1,t2,t3,t4,t5,t6⟩:=rT ht y.sorted y.mH p.nQ p.lg;obtain⟨u,u2,u3⟩:=g5 t1;have hu:qP n l H {p with a:=a1}:=by have u1:=u.tB;rw[g1,<-t2,<-t3]at u1;have ut:=u.jh;rw[g1,<-t2,<-t3]at ut;exact⟨u1,by rw[t3];exact g3,u.room,ut,t4.trans t1⟩
 obtain⟨B,Z⟩:=t6.jh hu hl;have Z:a1.V<tk.V:=Z;have B:ng n (gY l) tk.V (tk.T a1.T):=B;have k:=JK hu hn (by show p.lg.gF+2<_;omega) t6 hl;have ag:mn H p frame=nz H {p with a:=a1} tk:=by unfold mn;rw[g1,ht]
 rw[ag];generalize nz H {p with a:=a1} tk=q at *
 obtain⟨H',p'⟩:=q;obtain⟨k1,C,F,M,k5,R,k7⟩:=k;simp only at k1 C F M k5 R k7;have hT:a1.jO tk (gY l) n=iy.oO {a1 with V:=tk.V,T:=tk.T a1.T}:=by unfold iy.jO;rw[hl]
 obtain⟨p1,p2,p3⟩:=lN {a1 with V:=tk.V,T:=tk.T a1.T} 17 (nC tk.V);have U:(a1.jO tk (gY l) n).V=tk.V:=by rw[hT];exact p2
 have W:(a1.jO tk (gY l) n).T=tk.T a1.T:=by rw[hT];exact p3
 have eD:(a1.jO tk (gY l) n).l4=J:=by rw[hT];exact p1.trans (t4.trans t1)
 have a2:ng n (gY l) a1.V a1.T:=hu.jh;have d:∀x,x∈a1.T\/x∈tk.T a1.T->x∈ever':=fun x b=>he x (b.imp (fun b=>h.everT _ h.self x (by rw[<-t3];exact b)) id);have i:∀m∈[(a1.V,a1.T),((a1.jO tk (gY l) n).V,(a1.jO tk (gY l) n).T)],ng n (gY l) m.1 m.2:=fun m hm=>by
  rw[U,W]at hm;rcases aZ.1 hm with rfl|hm
  .exact a2
  .rw[ay.1 hm];exact B
 have r:∀m∈[(a1.V,a1.T),((a1.jO tk (gY l) n).V,(a1.jO tk (gY l) n).T)],∀k∈[(a1.V,a1.T),((a1.jO tk (gY l) n).V,(a1.jO tk (gY l) n).T)],m.1=k.1->m=k:=fun m hm k hk e=>by
  rw[U,W]at hm hk;rcases aZ.1 hm with rfl|hm<;>rcases aZ.1 hk with rfl|hk
  .rfl
  .rw[ay.1 hk]at e⊢;simp only at e;omega
  .rw[ay.1 hm]at e⊢;simp only at e;omega
  .rw[ay.1 hm,ay.1 hk]
 have j:∀m∈[(a1.V,a1.T),((a1.jO tk (gY l) n).V,(a1.jO tk (gY l) n).T)],∀x∈m.2,x∈ever':=fun m hm x b=>by
  rw[U,W]at hm;rcases aZ.1 hm with rfl|hm
  .exact d x (.inl b)
  .rw[ay.1 hm]at b;exact d x (.inr b)
 have D:Fu n H' (s+2) fun v T=>(v,T)∈[(a1.V,a1.T),((a1.jO tk (gY l) n).V,(a1.jO tk (gY l) n).T)]:=k1.mono (by show p.lg.gF+2<=s+2;omega) fun v T hc=>by
  rw[U,W];rcases hc with ⟨rfl,rfl⟩|⟨rfl,rfl⟩
  .exact cy
  .exact aR _ (ay.2 rfl)
 have o:0<=H'.fail->armed=true:=fun e=>h.arm (k5 e);refine⟨H',p',rfl,eD,fun hdd=>⟨⟨D,i,r,j,fun x b=>d x (C x b),F,M,o,cy,fun q hq e=>?_⟩,fun x b=>d x (C x b)⟩,fun hdd=>?_⟩
 .rw[hdd]at e;cases e
 .rcases k7 hdd with ⟨r1,r2,X,r4⟩|⟨r1,r2,X,r4,r5⟩
  .left;refine⟨r2,X.trans u3,r4,⟨?_,?_,?_,?_,fun x b=>d x (C x b),F,M,o,cy,fun q hq _=>?_⟩⟩
   .refine(r1.tB.may.mono (t:=s+2) (by have:p'.lg.gF<=p.lg.gF+2:=R;omega) fun v T hc=>?_);rw[ay,hc.1,hc.2,r2]
   .exact fun m hm=>i m (by rw[ay.1 hm];exact aR _ (ay.2 rfl))
   .exact fun m hm k hk _=>by rw[ay.1 hm,ay.1 hk]
   .exact fun m hm=>j m (by rw[ay.1 hm];exact aR _ (ay.2 rfl))
   .cases hq;refine⟨r2,by have:p'.lg.gF<=p.lg.gF+2:=R;omega,r1.dpS.trans (by rw[r2]),fun _=>⟨r1,rfl,X.trans u3⟩,fun f e=>?_⟩;rw[eD]at e;cases e
  .right;obtain⟨q1,q2,q3⟩:=lN {a1 with l4:=N (12,0)} 18 [UInt8.ofNat 12];have eS:((a1.jZ (12,0)).V,(a1.jZ (12,0)).T)=(a1.V,a1.T):=Prod.ext q2 q3;refine⟨r1,r2,h.arm X,r5,⟨D,i,r,j,fun x b=>d x (C x b),F,M,o,by rw[eS];exact cy,fun q hq _=>?_⟩⟩;cases hq;refine⟨r1,by have:p'.lg.gF<=p.lg.gF+2:=R;omega,r4.trans q3.symm,fun e=>?_,fun f e=>?_⟩
   .rw[show(a1.jZ (12,0)).l4=N (12,0)from q1]at e;cases e
   .rw[show(a1.jZ (12,0)).l4=N (12,0)from q1]at e;cases e;exact⟨fun _=>r2,fun _=>rfl⟩
theorem oG.begun(n:Nat)(l:List Int)(D:32<=n/\n<=128):
  ∃H' p,j7 (rX n (gY l))=(H',.inl p)/\p.a=lE 0 []/\H'.dp.ir=false/\H'.dp.iF=[]/\oG n l 0 H' (N p) (lE 0 []) [(0,[])] [] false:=by
 obtain⟨m1,m2,m3,m4,m5⟩:=GG n l D;have d:=Ce (l:=l) m1 (fun v T hc=>by rw[hc.1,hc.2];exact ng.nil n l) m2 m3 (by rw[m4];exact gM.nil) (by rw[m4]);have hdd:(j7 (rX n (gY l))).1.dp.ir=false/\(j7 (rX n (gY l))).1.fail=-1/\(j7 (rX n (gY l))).1.dp.iF=[]:=by obtain⟨v,T,⟨rfl,rfl⟩,j⟩:=m1 fun _=>true;rw[m2]at j;have j:pt n (rX n (gY l)).held 0 0 []:=j;obtain⟨g,E,-⟩:=uf j;unfold j7 ja;rw[af (by rw[m5];omega)];simp only;rw[m3,E];simp only;rw[m4,(ng.nil n l).over];exact⟨rfl,rfl,rfl⟩
 generalize j7 (rX n (gY l))=q at d hdd;obtain⟨H',r⟩:=q;simp only at d hdd;cases d with
 | pW f h1 b o F s u=>rw[m5]at b;omega
 | mH p v T h1 b o F s u V M R=>obtain⟨rfl,rfl⟩:=h1;obtain⟨y,b2,U⟩:=nh 0 [];have B:=R hdd.1;have C:H'.dp.S=[]:=B.dpS.trans (by rw[b.1,b2]);refine⟨H',p,rfl,b.1,hdd.1,hdd.2.2,⟨o.mono gH fun v T hc=>(by rw[hc.1,hc.2];exact ay.2 rfl),fun m hm=>(by rw[ay.1 hm];exact ng.nil n l),fun m hm k hk _=>(by rw[ay.1 hm,ay.1 hk]),fun m hm x i=>(by rw[ay.1 hm]at i;cases i),fun x i=>(by rw[C]at i;cases i),s,u,fun e=>(by rw[hdd.2.1]at e;omega),(by rw[y,b2];exact cy),fun q hq _=>?_⟩⟩;cases hq;refine⟨b.1,M,C.trans b2.symm,fun _=>⟨B,by rw[y,b2],b.2⟩,fun f e=>?_⟩;rw[U]at e;cases e
theorem Fa(k:UInt8)(b:gw):(vh k b).length=O b+5:=by unfold vh;simp[yX]
theorem iy.mN.put(h:a.mN)(k:UInt8)(b:gw)(i:O b<=8):(a.put k b).mN:=by
 unfold iy.put;split
 .refine⟨h.v,by simp only[ab,dw];omega,fun s d=>?_,h.me⟩;rcases bQ.1 d with d|d
  .exact h.olen s d
  .rw[ay.1 d,Fa];omega
 .exact h
theorem iy.mN.ki(h:a.mN):a.ki.mN:=h.put _ _ (by rw[iB];omega)
theorem iy.mN.oO(h:a.mN):a.oO.mN:=h.put _ _ (by rw[iB];omega)
theorem iy.mN.jM(h:a.mN)(k:Nat):(a.jM k).mN:=h.put _ _ (by simp)
theorem iy.mN.lX(h:a.mN):a.lX.mN:=h.put _ _ (by simp)
theorem iy.mN.pW(h:a.mN)(k:Nat):(a.pW k).mN:=(h.jM k).ki
theorem iy.mN.jZ(h:a.mN)(f:Nat×Nat):(a.jZ f).mN:=iy.mN.jM (a:={a with l4:=N f}) ⟨h.v,h.out,h.olen,h.me⟩ f.1
theorem iy.mN.next(h:a.mN):a.next.1.mN:=by
 unfold iy.next;split
 .exact h
 .rename_i s l e;exact⟨h.v,by have:=h.out;rw[e]at this;simp at this;show(O l)<=6;omega,fun t b=>h.olen t (by rw[e];exact aR _ b),h.me⟩
theorem iy.mN.fin(h:a.mN):iy.mN {a with me:=J}:=⟨h.v,h.out,h.olen,fun _ _ _ e=>by cases e⟩
theorem iy.mN.begun(v:Nat)(T:List E)(b:v<18446744073709551615):(lE v T).mN:=iy.mN.ki ⟨b,by simp,by simp,fun _ _ _ e=>by cases e⟩
theorem iy.mN.mW(h:a.mN)(body:gw):(a.mW body).mN:=by
 unfold iy.mW;split
 .exact h.pW 1
 .split
  .exact h.pW 2
  .split
   .exact h.pW 4
   .rename_i l i _;split
    .exact h.pW 5
    .rename_i m;split
     .exact h.oO
     .refine iy.mN.lX ⟨h.v,h.out,h.olen,fun tv of got e=>?_⟩;cases e;have hl:=pR 8 (body.take 8) (by rw[ax];omega);rw[aW (by rw[ax];omega)]at hl;have j:j6 (body.take 8)<256^8:=hl;have b:(256:Nat)^8=18446744073709551616:=by decide
      refine⟨by show 0<_;omega,by omega,by omega,fun s d=>by cases d⟩
theorem iy.mN.mV(h:a.mN)(tv:Nat)(bytes:gw):(a.mV tv bytes).1.mN:=by
 unfold iy.mV;split
 .exact h.pW _
 .split
  .exact h.pW 4
  .split
   .exact h.oO
   .exact h
theorem iy.mN.piece(h:a.mN)(body:gw):(a.piece body).1.mN:=by
 unfold iy.piece;split
 .exact h.pW 1
 .split
  .exact h.pW 2
  .rename_i j;split
   .exact h.ki
   .rename_i tv of got e;obtain⟨c1,c2,c3,c4⟩:=h.me tv of got e;split
    .exact h.lX
    .split
     .refine iy.mN.lX ⟨h.v,h.out,h.olen,fun l m d i=>?_⟩;cases i;refine⟨by rw[ab,dw];omega,c2,c3,fun s b=>?_⟩;rcases bQ.1 b with b|b
      .exact c4 s b
      .rw[ay.1 b,bu];omega
     .exact h.fin.mV _ _
theorem iy.mN.taken(h:a.mN)(frame:gw):(a.taken frame).1.mN:=by
 unfold iy.taken;split
 .exact h.jM 13
 .split
  .exact h.pW _
  .split
   .unfold iy.delta;split
    .exact h.pW _
    .split
     .exact h.oO
     .split
      .exact h.ki
      .exact h
   .split
    .show(if _ then _ else _:iy).mN;split
     .exact h.ki
     .exact h.pW 2
    .split
     .exact h.mW _
     .split
      .exact h.piece _
      .exact h.pW 6
theorem iy.mN.jO(h:a.mN)(tk:iV)(room:Nat->Int)(n:Nat)(b:tk.V<18446744073709551615):(a.jO tk room n).mN:=by
 unfold iy.jO;split
 .exact h.jZ _
 .exact iy.mN.oO ⟨b,h.out,h.olen,h.me⟩
theorem OV{data b:gw}(h:b∈iH s data):O b=64:=by unfold iH at h;obtain⟨i,-,rfl⟩:=aA.1 h;exact qx (by rw[uE];have:=tN data i;omega)
theorem iW.jc:∀(l:List gw) {H:gA} {B:Nat} (n:Nat),iW H B->(∀b∈l,O b=64)->n+O l<=O H.gG->iW (jc l H n).1 (B+O l)/\(jc l H n).1.gG.length=O H.gG
 | [],H,B,n,h,_,_=>⟨h,rfl⟩
 | s::l,H,B,n,h,hl,i=>by
  unfold _root_.Go.Proofs.YtkkfmkhbdoeglabGreatDoor.jc;rw[ao]at i;obtain⟨h1,d⟩:=h.write (n:=n) (by omega) (hl s (by simp));generalize H.write n s=q at h1 d⊢;obtain⟨H1,r⟩:=q;cases r with
  | some f=>exact⟨h1.mono (by rw[ao];omega),d⟩
  | none=>have m:O H1.gG=O H.gG:=d;obtain⟨g1,g2⟩:=iW.jc l (n+1) h1 (fun b j=>hl b (by simp[j])) (by show n+1+O l<=O H1.gG;omega);exact⟨g1.mono (by rw[ao];omega),g2.trans d⟩
theorem iW.gT(h:iW H B)(g:jP)(at':Nat)(data:gw)(i:at'+iw (O data)<=O H.gG):iW (gT H g at' data).1 (B+iw (O data))/\(gT H g at' data).1.gG.length=O H.gG:=by
 obtain⟨h1,d⟩:=iW.jc (iH (g.gF+1) data) (H:=H) (B:=B) at' h (fun b j=>OV j) (by rw[lP];exact i);rw[lP]at h1;unfold _root_.Go.Proofs.YtkkfmkhbdoeglabGreatDoor.gT;generalize _root_.Go.Proofs.YtkkfmkhbdoeglabGreatDoor.jc (iH (g.gF+1) data) H at'=q at h1 d⊢;obtain⟨H1,r⟩:=q;cases r with
 | some f=>exact⟨h1,d⟩
 | none=>exact⟨h1.jY.1,h1.jY.2.trans d⟩
theorem iW.iz(h:iW H B)(g:jP)(v:Nat)(T:List E)(j:g.iC<2)(o:jw T<=16*(O H.gG-8)):iW (iz H g v T).1 (B+128)/\(iz H g v T).1.gG.length=O H.gG/\(iz H g v T).2.1.next<=max g.next (2*ik (O H.gG))/\(iz H g v T).2.1.iC<2:=by
 have d:=h.n;have l:=mg d.1 d.2;have m:iw (kh v T).length<=ik (O H.gG):=qG (by rw[rz];omega);have i:(1-g.iC)*ik (O H.gG)+iw (kh v T).length<=O H.gG:=by rcases(show g.iC=0\/g.iC=1 by omega)with e|e<;>rw[e]<;>omega
 obtain⟨h1,b⟩:=h.gT g ((1-g.iC)*ik (O H.gG)) (kh v T) i;unfold _root_.Go.Proofs.YtkkfmkhbdoeglabGreatDoor.iz;generalize _root_.Go.Proofs.YtkkfmkhbdoeglabGreatDoor.gT H g ((1-g.iC)*ik (O H.gG)) (kh v T)=q at h1 b⊢;obtain⟨H1,r⟩:=q;cases r with
 | some f=>exact⟨h1.mono (by omega),b,by show g.next<=_;omega,j⟩
 | none=>exact⟨h1.mono (by omega),b,by show 2*ik (O H.gG)<=_;omega,by show 1-g.iC<2;omega⟩
theorem iW.jH(h:iW H B)(g:jP)(b:gw)(v:Nat)(T:List E)(m:g.iC<2)(o:jw T<=16*(O H.gG-8))(M:O b<=700)(_hg:g.next<=O H.gG):iW (jH H g b v T).1 (B+256)/\(jH H g b v T).1.gG.length=O H.gG:=by
 have j:=h.n;have D:=mg j.1 j.2;have F:iw (O b)<=14:=by unfold iw;omega
 have key:∀(H':gA) (g':jP) (C:Nat),iW H' C->C+14<=B+256->O H'.gG=O H.gG->g'.next+iw (O b)<=O H.gG->iW (jk H' g' b).1 (B+256)/\(jk H' g' b).1.gG.length=O H.gG:=by intro H' g' C s R l u;obtain⟨h1,d⟩:=s.gT g' g'.next b (by rw[l];exact u);unfold jk;generalize _root_.Go.Proofs.YtkkfmkhbdoeglabGreatDoor.gT H' g' g'.next b=q at h1 d⊢;obtain⟨H1,r⟩:=q;cases r<;>exact⟨h1.mono (by omega),d.trans l⟩
 unfold _root_.Go.Proofs.YtkkfmkhbdoeglabGreatDoor.jH;split
 .obtain⟨h1,d,x,y⟩:=h.iz g v T m o;have i:(_root_.Go.Proofs.YtkkfmkhbdoeglabGreatDoor.iz H g v T).2.2=J->(_root_.Go.Proofs.YtkkfmkhbdoeglabGreatDoor.iz H g v T).2.1.next=2*ik (O H.gG):=by
   unfold _root_.Go.Proofs.YtkkfmkhbdoeglabGreatDoor.iz;generalize _root_.Go.Proofs.YtkkfmkhbdoeglabGreatDoor.gT H g ((1-g.iC)*ik (O H.gG)) (kh v T)=q;obtain⟨H1,r⟩:=q;cases r with
   | some f=>intro e;cases e
   | none=>intro _;rfl
  generalize _root_.Go.Proofs.YtkkfmkhbdoeglabGreatDoor.iz H g v T=q at h1 d x y i⊢;obtain⟨H1,g1,r⟩:=q;cases r with
  | some f=>exact⟨h1.mono (by omega),d⟩
  | none=>exact key H1 g1 (B+128) h1 (by omega) d (by have:=i rfl;simp only at this;omega)
 .exact key H g B h (by omega) rfl (by omega)
structure jo(l:List Int)(B:Nat)(d:jz):Prop where
 qO:qt (gY l) jB d.S
 room:d.room=gY l
 iF:O d.iF<=B
 left:-1<=d.left/\d.left<=9223372036854775807
theorem jo.mono{C:Nat}{d:jz}(h:jo l B d)(b:B<=C):jo l C d:=⟨h.qO,h.room,au h.iF b,h.left⟩
theorem jB.jh{x:E}(h:jB x):xI x.1:=⟨h.1,h.2.1⟩
theorem jo.stop{d:jz}(h:jo l B d):jo l B d.stop:=⟨h.qO,h.room,h.iF,by have:=h.left;show -1<=(if 0<d.left then d.left-1 else d.left)/\(if 0<d.left then d.left-1 else d.left)<=_;split<;>omega⟩
theorem qt.drop{room:Nat->Int}{P:E->Prop}(h:qt room P S)(k:K):qt room P (om k S):=by have d:=pD k h.sorted;refine⟨d,fun x b=>h.jh x ((qE k S x).1 b).1,fun t i=>?_,fun x b=>h.mem x ((qE k S x).1 b).1⟩;have h1:=yu d (fun x b=>aA.2 ⟨x,((qE k S x).1 b).1,rfl⟩:∀x∈om k S,x.1∈S.map (·.1)) (t:Int);have:=h.room t i;omega
theorem jo.step{d:jz}(h:jo l B d)(o:wF)(q:∀v,o.2=N v->jB (o.1,v)):jo l (B+2) (d.step o):=by
 obtain⟨k,v⟩:=o;have b:=h.stop;have hl:=h.iF;cases v with
 | none=>
  unfold jz.step jz.drop;simp only;split
  .exact b.mono (by omega)
  .exact⟨h.qO.drop k,h.room,by simp only[ab,dw];omega,b.left⟩
 | some v=>
  have j:=q v rfl;unfold jz.step jz.put;simp only;split
  .exact b.mono (by omega)
  .split
   .rename_i i;refine⟨?_,h.room,by simp only[ab,dw];omega,b.left⟩;have h1:=h.qO.step j;unfold yT at h1;have m:=j.jh;rw[aw m]at h1;unfold jz.pQ jz.BS at i;rw[aw (show 0<=k.1/\k.1<3 from m),h.room]at i;rw[aw i]at h1;exact h1
   .exact⟨h.qO,h.room,by simp only[ab,dw];omega,b.left⟩
theorem jo.run  : ∀(os:List wF) {B:Nat} {d:jz},jo l B d->(∀o∈os,∀v,o.2=N v->jB (o.1,v))->jo l (B+2*O os) (d.run os)
 | [],_,_,h,_=>h
 | o::os,B,d,h,b=>(jo.run os (h.step o (b o (by simp))) fun u i=>b u (by simp[i])).mono (by rw[ao];omega)
theorem zB(h w:List E):(lU h w).length<=O h+O w:=by unfold lU oX nN oh rY;rw[ab,aB,aB];exact Nat.add_le_add (cU _ _) (cU _ _)
theorem jo.qV{d:jz}(h:jo l B d){T:List E}(j:∀x∈T,jB x)(hl:O T<=120):jo l (B+480) (d.run (lU d.S T)):=by
 refine(h.run (lU d.S T) fun o b v i=>?_).mono ?_
 .unfold lU at b;rcases bQ.1 b with b|b
  .obtain⟨x,-,rfl⟩:=aA.1 b;cases i
  .obtain⟨x,m,rfl⟩:=aA.1 b;cases i;exact j x (cF.1 m).1
 .have h1:=zB d.S T;have q:=h.qO.len;omega
structure nm(n:Nat)(l:List Int)(B:Nat)(H:gA):Prop where
 ok:iW H B
 len:O H.gG=n
 dp:jo l B H.dp
theorem nm.mono{C:Nat}(h:nm n l B H)(b:B<=C):nm n l C H:=⟨h.ok.mono b,h.len,h.dp.mono b⟩
theorem nm.qV(h:nm n l B H){T:List E}(b:∀x∈T,jB x)(hl:O T<=120):nm n l (B+480) (H.qV T):=
 ⟨⟨h.ok.n,h.ok.hl,h.ok.s64,h.ok.h64,h.ok.gX,h.ok.fail,by have:=h.ok.il;show 0<=H.il/\H.il<=_;omega,by have:=h.ok.ll;show(O H.gX)<=_;omega⟩,h.len,h.dp.qV b hl⟩
theorem jo.write(h:jo l B H.dp)(n:Nat)(s:gw):jo l B (H.write n s).1.dp:=by
 unfold gA.write;split
 .exact h
 .exact h.stop
theorem jo.il   : ∀(ps:List gw) (H:gA) (n:Nat),jo l B H.dp->jo l B (jc ps H n).1.dp
 | [],_,_,h=>h
 | s::ps,H,n,h=>by
  unfold jc;have h1:=h.write n s;generalize H.write n s=q at h1⊢;obtain⟨H1,r⟩:=q;cases r with
  | some f=>exact h1
  | none=>exact jo.il ps H1 (n+1) h1
theorem jo.jY(h:jo l B H.dp):jo l B H.jY.1.dp:=by
 unfold gA.jY;split
 .exact h
 .split<;>exact h.stop
theorem jo.gT(h:jo l B H.dp)(g:jP)(n:Nat)(b:gw):jo l B (gT H g n b).1.dp:=by
 unfold _root_.Go.Proofs.YtkkfmkhbdoeglabGreatDoor.gT;have h1:=jo.il (iH (g.gF+1) b) H n h;generalize jc (iH (g.gF+1) b) H n=q at h1⊢;obtain⟨H1,r⟩:=q;cases r with
 | some f=>exact h1
 | none=>exact h1.jY
theorem jo.iz(h:jo l B H.dp)(g:jP)(v:Nat)(T:List E):jo l B (iz H g v T).1.dp:=by
 unfold _root_.Go.Proofs.YtkkfmkhbdoeglabGreatDoor.iz;have h1:=h.gT g ((1-g.iC)*ik (O H.gG)) (kh v T);generalize _root_.Go.Proofs.YtkkfmkhbdoeglabGreatDoor.gT H g ((1-g.iC)*ik (O H.gG)) (kh v T)=q at h1⊢;obtain⟨H1,r⟩:=q;cases r with
 | some f=>exact h1
 | none=>exact h1
theorem jo.jk(h:jo l B H.dp)(g:jP)(b:gw):jo l B (jk H g b).1.dp:=by
 unfold _root_.Go.Proofs.YtkkfmkhbdoeglabGreatDoor.jk;have h1:=h.gT g g.next b;generalize _root_.Go.Proofs.YtkkfmkhbdoeglabGreatDoor.gT H g g.next b=q at h1⊢;obtain⟨H1,r⟩:=q;cases r with
 | some f=>exact h1
 | none=>exact h1
theorem jo.jH(h:jo l B H.dp)(g:jP)(b:gw)(v:Nat)(T:List E):jo l B (jH H g b v T).1.dp:=by
 unfold _root_.Go.Proofs.YtkkfmkhbdoeglabGreatDoor.jH;split
 .have h1:=h.iz g v T;generalize _root_.Go.Proofs.YtkkfmkhbdoeglabGreatDoor.iz H g v T=q at h1⊢;obtain⟨H1,g1,r⟩:=q;cases r with
  | some f=>exact h1
  | none=>exact jo.jk (H:=H1) h1 g1 b
 .exact h.jk g b
theorem qP.iC(h:qP n l H P):P.lg.iC<2:=by
 obtain⟨d,i,j,L,m,b,-⟩:=h.tB.inv;rcases b with ⟨-,-,-,h1,-⟩|⟨h1,-⟩
 .omega
 .exact h1
theorem qP.len(h:qP n l H P):O H.gG=n:=by rw[h.tB.gG,h.tB.len]
theorem nm.jO(h:nm n l B H)(b:qP n l H P)(m:Ax P tk):nm n l (B+1000) (nz H P tk).1:=by
 unfold nz;cases hl:jG (tk.T P.a.T) H.dp.room (O H.gG) with
 | some f=>exact h.mono (by omega)
 | none=>
  simp only;rw[h.dp.room,h.len]at hl;obtain⟨d,-⟩:=m.jh b hl;have k:iW (tk.iF H P).1 (B+256)/\(tk.iF H P).1.gG.length=O H.gG/\jo l B (tk.iF H P).1.dp:=by
   cases tk with
   | delta v os=>obtain⟨i,j⟩:=h.ok.jH P.lg (tS v os) P.a.V P.a.T b.iC (by rw[b.len];exact b.jh.size) m.2.2.2.2.1 (by rw[b.len];exact b.tB.next);exact⟨i,j,h.dp.jH _ _ _ _⟩
   | nG v T=>obtain⟨i,j,-,-⟩:=h.ok.iz P.lg v T b.iC (by rw[b.len];exact d.size);exact⟨i.mono (by omega),j,h.dp.iz _ _ _⟩
  generalize tk.iF H P=q at k⊢;obtain⟨H1,g1,r⟩:=q;obtain⟨i,j,o⟩:=k;have f1:nm n l (B+256) H1:=⟨i,j.trans h.len,o.mono (by omega)⟩;cases r with
  | some f=>exact f1.mono (by omega)
  | none=>exact(f1.qV d.mH d.len).mono (by omega)
theorem nm.recv(h:nm n l B H)(d:oG n l s H (N p) a maybe ever armed)(i:H.dp.ir=false)(frame:gw):nm n l (B+1000) (mn H p frame).1:=by
 obtain⟨g1,g2,j,g5,g6⟩:=d.up p rfl i;have b:=d.tabs _ d.self;unfold mn;rw[g1];cases m:a.taken frame with
 | mk a1 r=>
  cases r with
  | none=>exact h.mono (by omega)
  | some tk=>obtain⟨t1,t2,t3,t4,t5,t6⟩:=rT m b.sorted b.mH p.nQ p.lg;obtain⟨u,u2,u3⟩:=g5 t1;have u1:=u.tB;rw[g1,<-t2,<-t3]at u1;have ut:=u.jh;rw[g1,<-t2,<-t3]at ut;exact h.jO (P:={p with a:=a1}) ⟨u1,by rw[t3];exact j,u.room,ut,t4.trans t1⟩ t6
theorem nm.ja(h:nm n l B H):nm n l B (ja H).1:=by
 have b:=h.ok.fail;have d:=h.ok.n;unfold _root_.Go.Proofs.YtkkfmkhbdoeglabGreatDoor.ja;split
 .exact⟨⟨h.ok.n,h.ok.hl,h.ok.s64,h.ok.h64,h.ok.gX,⟨by show(-1:Int)<=-1;omega,by show(-1:Int)<=_;omega⟩,h.ok.il,h.ok.ll⟩,h.len,h.dp⟩
 .rename_i hc;refine⟨⟨h.ok.n,h.ok.hl,h.ok.s64,h.ok.h64,h.ok.gX,?_,h.ok.il,h.ok.ll⟩,h.len,h.dp⟩;show -1<=(if H.fail<0 then H.fail else H.fail-(O H.gG))/\(if H.fail<0 then H.fail else H.fail-(O H.gG))<=_;split<;>omega
theorem q9{α:Type}(b:Nat->Bool):∀(l:List (α×Nat)) (k:Nat) (d:List α),(ig b k l d).length=O d
 | [],_,_=>rfl
 | (p,n)::l,k,d=>by
  unfold ig;rw[q9 b l];split
  .rw[cA]
  .rfl
theorem tI{α:Type}(o:Nat->Bool)(i:α->Prop):∀(l:List (α×Nat)) (k:Nat) (d:List α),(∀x∈l,i x.1)->(∀b∈d,i b)->∀b∈ig o k l d,i b
 | [],_,_,_,m=>m
 | (p,n)::l,k,d,hl,m=>by
  unfold ig;refine tI o i l _ _ (fun y q=>hl y (by simp[q])) fun b j=>?_;split at j
  .rcases di j with j|rfl
   .exact m b j
   .exact hl (_,n) (by simp)
  .exact m b j
theorem nm.mo(h:nm n l B H)(d i fail:Int)(hc:i<=9223372036854775807)(m:fail<=9223372036854775807):nm n l B (H.mo d i fail):=by
 have hl:(ig (uj d) 0 H.gX H.held).length=O H.gG:=by rw[q9];exact h.ok.hl
 have h64:∀b∈ig (uj d) 0 H.gX H.held,O b=64:=tI _ (fun b=>O b=64) _ _ _ (fun x j=>(h.ok.gX x j).1) h.ok.h64;refine⟨⟨by show 32<=(ig (uj d) 0 H.gX H.held).length/\(ig (uj d) 0 H.gX H.held).length<=128;rw[hl];exact h.ok.n,rfl,h64,h64,fun x j=>(by cases j),⟨by show(-1:Int)<=max fail (-1);omega,by show max fail (-1)<=_;omega⟩,h.ok.il,aJ _⟩,hl.trans h.len,⟨h.dp.qO,h.dp.room,h.dp.iF,⟨by show(-1:Int)<=max i (-1);omega,by show max i (-1)<=_;omega⟩⟩⟩
theorem nm.oK(h:nm n l B H)(k b d:Int)(lg:List gw)(hk:0<=k/\k<=B)(h1:-1<=b/\b<=9223372036854775807)(i:-1<=d/\d<=9223372036854775807)(j:O lg<=B):nm n l B {H with il:=k,fail:=d,dp:={H.dp with left:=b,iF:=lg}}:=
 ⟨⟨h.ok.n,h.ok.hl,h.ok.s64,h.ok.h64,h.ok.gX,i,hk,h.ok.ll⟩,h.len,⟨h.dp.qO,h.dp.room,j,h1⟩⟩
structure Mq(n:Nat)(l:List Int)(B:Nat)(H:gA)(p:iM):Prop where
 nP:nm n l B H
 low:B<=800000000
 fit:p.a.mN
 up:p.a.l4=J->qP n l H p
 gF:p.lg.gF<8999999999999999999
def tE(n:Nat)(l:List Int)(gG:List gw):Prop:=∃g v T,GM gG=(g,v,T)/\j9 ni og iO [] (gG.map gN) (ik n) g.iC v T g.next/\ng n (gY l) v T
theorem oG.opens{P:Option iM}(h:oG n l s H P a maybe ever armed)(b d fail:Int):tE n l (H.mo b d fail).gG:=by obtain⟨m1,m2,m3,-,-,-⟩:=AF h.may b d fail;obtain⟨v,T,hc,i⟩:=m1 fun _=>true;rw[m2]at i;obtain⟨g,j,-,-,-,m⟩:=uf (show pt n (H.mo b d fail).held s v T from i);exact⟨g,v,T,by rw[m3];exact j,by rw[m3];exact m,h.tabs _ hc⟩
theorem DK(n:Nat)(l:List Int)(d:32<=n/\n<=128):tE n l (rX n (gY l)).gG:=by obtain⟨m1,m2,m3,-,-⟩:=GG n l d;obtain⟨v,T,⟨rfl,rfl⟩,b⟩:=m1 fun _=>true;rw[m2]at b;obtain⟨g,i,-,-,-,j⟩:=uf (show pt n (rX n (gY l)).held 0 0 []from b);exact⟨g,0,[],by rw[m3];exact i,by rw[m3];exact j,ng.nil n l⟩
theorem nm.start(h:nm n l B H)(d:tE n l H.gG):nm n l (B+480) (j7 H).1:=by
 obtain⟨g,v,T,i,-,b⟩:=d;have h1:=h.ja;unfold j7;generalize _root_.Go.Proofs.YtkkfmkhbdoeglabGreatDoor.ja H=q at h1⊢;obtain⟨H1,r⟩:=q;cases r with
 | some f=>exact h1.mono (by omega)
 | none=>
  simp only;rw[i];simp only;split
  .exact h1.mono (by omega)
  .exact h1.qV b.mH b.len
theorem nm.new(n:Nat)(l:List Int)(i:32<=n/\n<=128):nm n l 0 (rX n (gY l)):=by
 have j:O kL=64:=by decide
 have h64:∀b∈List.replicate n kL,O b=64:=fun b m=>by rw[List.eq_of_mem_replicate m];exact j
 refine⟨⟨by show 32<=(List.replicate n kL).length/\(List.replicate n kL).length<=128;rw[bV];exact i,rfl,h64,h64,fun x d=>(by cases d),⟨by show(-1:Int)<=-1;omega,by show(-1:Int)<=_;omega⟩,⟨Int.le_refl _,Int.le_refl _⟩,aq _⟩,bV ..,⟨⟨gM.nil,fun x d=>(by cases d),fun t o=>?_,fun x d=>(by cases d)⟩,rfl,aq _,⟨by show(-1:Int)<=-1;omega,by show(-1:Int)<=_;omega⟩⟩⟩;exact(oA l t).1
theorem JT(H:gA)(n:Nat)(s:gw):H.dp.rW (H.write n s).1.dp:=by
 unfold gA.write;split
 .exact jz.rW.refl _
 .exact qn _
theorem IH(H:gA):H.dp.rW H.jY.1.dp:=by
 unfold gA.jY;split
 .exact jz.rW.refl _
 .split<;>exact qn _
theorem zO:∀(l:List gw) (H:gA) (n:Nat),H.dp.rW (jc l H n).1.dp
 | [],_,_=>jz.rW.refl _
 | s::l,H,n=>by
  unfold jc;have h1:=JT H n s;generalize H.write n s=q at h1⊢;obtain⟨b,d⟩:=q;cases d with
  | some f=>exact h1
  | none=>exact h1.trans (zO l b (n+1))
theorem wj(H:gA)(g:jP)(at':Nat)(data:gw):H.dp.rW (gT H g at' data).1.dp:=by
 unfold gT;have h1:=zO (iH (g.gF+1) data) H at';generalize jc (iH (g.gF+1) data) H at'=q at h1⊢;obtain⟨b,d⟩:=q;cases d with
 | some f=>exact h1
 | none=>exact h1.trans (IH b)
theorem xO(H:gA)(g:jP)(v:Nat)(T:List E):H.dp.rW (iz H g v T).1.dp:=by unfold iz;have h1:=wj H g ((1-g.iC)*ik (O H.gG)) (kh v T);generalize gT H g ((1-g.iC)*ik (O H.gG)) (kh v T)=q at h1⊢;obtain⟨d,b⟩:=q;cases b<;>exact h1
theorem xP(H:gA)(g:jP)(b:gw):H.dp.rW (jk H g b).1.dp:=by unfold jk;have h1:=wj H g g.next b;generalize gT H g g.next b=q at h1⊢;obtain⟨i,d⟩:=q;cases d<;>exact h1
theorem Gy(H:gA)(g:jP)(b:gw)(v:Nat)(T:List E):H.dp.rW (jH H g b v T).1.dp:=by
 unfold jH;split
 .have h1:=xO H g v T;generalize iz H g v T=q at h1⊢;obtain⟨d,g1,i⟩:=q;cases i with
  | some f=>exact h1
  | none=>exact h1.trans (xP d g1 b)
 .exact xP H g b
theorem jB.small{x:E}(h:jB x):0<=x.1.1/\x.1.1<256/\O x.1.2<=100/\O x.2<=100:=by obtain⟨h1,b,d,i⟩:=h;have j:=mj d;have l:=lD h1 b i;have m:=yH x.1.1;have o:=yU x.1.1;exact⟨h1,by omega,by omega,by omega⟩
theorem Cb(h:∀x∈S,jB x):jw S<=201*O S:=by
 induction S with
 | nil=>simp[jw]
 | cons x S ih=>have h1:=ih fun y b=>h y (aR _ b);obtain⟨-,-,d,i⟩:=(h x (by simp)).small;unfold jw at h1⊢;rw[bG,List.sum_cons,ao];omega
theorem MJ(n B a h m q:Nat)(l:List Int)(F b d:Nat->Prop)(H:gA)(P:iM)(x:AV)(bv:Q4)(body:gw)(w:Q0)(hm:jL w F b d a h H P x)(u:qP n l H P)(av:iW H B)(hB:B<=800000000)(aE:P.lg.gF<8999999999999999999)(hb:gI w bv body)(R:∀k,Rl bv=N k->¬F k/\k≠x.lg/\k<G (Q w))(a0:O body<=700)(ha:Rn w ⟨m,0,J⟩=N (Q5 (N ⟨a,0,J⟩)))(S:Rn w ⟨q,0,J⟩=N bv)(D:(¬F m/\m≠x.lg)/\¬F q/\q≠x.lg):
  Ae 154 #[Q5 (N ⟨m,0,J⟩),Q5 (N ⟨q,0,J⟩)] w x F h (jH H P.lg body P.a.V P.a.T):=by
 intro W U;have j:=hm.below U;have s:=j.ag.row;unfold AV.cells xi at s;have c1:=gr 1 s;have c2:=gr 2 s;have c0:=gr 0 s;have a1:=gm s;have ca:=(U.cell (p:=⟨m,0,J⟩) (gK ha)).trans ha;have cb:=(U.cell (p:=⟨q,0,J⟩) (gK S)).trans S;obtain⟨ba,bc,rfl,-,-⟩:=hb.gU;have Z:=hb.below U;have C:=j.ag.ru
 have a4:=gj (fun(i:Q0) (M:Q8 (G (Q W)) W i)=>I2 x.lg h F H P.lg B a 0 x.r P.a.V P.a.T (Q6 ba (O body) bc) body i (gC M (gm j.ag.iF) j.ag.iF) (j.kQ.below M) av hB (fun e=>j.fg _ e C.2.2.1)
  ⟨(M.cell (p:=⟨a,0,J⟩) a1).trans c0,j.ag.jh.iI (M.block _ j.ag.jh.lt)⟩ ⟨fun e=>j.fg _ e C.1,fun e=>kK j.ag.row j.ag.iF (by decide) e⟩ ⟨fun e=>j.fg _ e C.2.1,fun e=>j.ag.jh.mZ j.ag.iF e.symm⟩
  u.iC (by rw[u.len];exact u.jh.size) (by have:=u.jh.len;omega) (by have:=u.jh.v64;omega) (fun y hy=>(u.jh.mH y hy).small) aE (Z.below M) (fun k e=>⟨(R k e).1,(R k e).2.1,by have:=(R k e).2.2;have:=U.size;have:=M.size;omega⟩) a0 (by rw[u.len];exact u.tB.next))
 have halt:=gK ca;have a8:=gK cb;have E:=gj (show ¬(F m\/m=x.lg)/\¬(F q\/q=x.lg)/\¬(F a\/a=x.lg)from⟨fun e=>e.elim D.1.1 D.1.2,fun e=>e.elim D.2.1 D.2.2,fun e=>e.elim (fun e=>j.fg _ e C.1) fun e=>kK j.ag.row j.ag.iF (by decide) e⟩);clear hm j s hb Z C ha S;go_enter func154,ntmps154;go_wp2
 go_region_held3 (fun w'=>Rn w' ⟨m,0,J⟩=N (Q5 (N ⟨a,0,J⟩))/\Rn w' ⟨q,0,J⟩=N (Q6 ba (O body) bc)/\Rn w' ⟨a,2,J⟩=N (Q5 (N ⟨x.lg,0,J⟩))/\Rn w' ⟨a,1,J⟩=N (I Re (P.a.V:Nat)))
  (first|exact⟨ca,cb,c2,c1⟩|(obtain⟨F',g1,g2,X⟩:=h3;exact⟨X.cell (p:=⟨m,0,J⟩) E.o.1 ca,X.cell (p:=⟨q,0,J⟩) E.o.2.1 cb,X.cell (p:=⟨a,2,J⟩) E.o.2.2 c2,X.cell (p:=⟨a,1,J⟩) E.o.2.2 c1⟩))
  (first|(go_at_call 155;refine(a4.o _ (by first|exact(Below.rf W).drew|exact Below.rf W)).mono ?_;rintro e w1 ⟨rv,rfl,h1,h2,h3,h4⟩))
 all_goals
  have HR:=gj (⟨h1,h2,h3⟩:Dd _ w1 rv (jH H P.lg body P.a.V P.a.T).2.2/\jl w1 x.lg h (jH H P.lg body P.a.V P.a.T).2.1/\kc _ F (fun k=>k=x.lg) h (jH H P.lg body P.a.V P.a.T).1 w1);clear h1 h2 h3 h4;go_wp2;go_ret;exact⟨_,rfl,HR.o.1,HR.o.2.1,kc.iN ((Below.rf W).drew) HR.o.2.2⟩
def j4(w:Q0)(M:Nat->Prop)(a h:Nat)(R:(gA×iM)×Option Nat)(e:Ending)(w':Q0):Prop:=
 nS w M a h R.1.1 R.1.2 w'/\match R.2 with
  | none=>e=Ra .nilIface
  | some k=>∃ev p,e=Ra ev/\mB w' (G (Q w)) ev (k:Nat) p
def rG(H:gA)(P:iM)(body:gw):(gA×iM)×Option Nat:=match tR body with
 | .inr f=>((H,P),some f.1)
 | .inl (v,os)=>(if v<=P.a.V then(H,{P with a:=P.a.oO})else if P.a.V+1<v then(H,{P with a:=P.a.ki})else su H P v (iO P.a.T os) (jH H P.lg body P.a.V P.a.T),none)
theorem Nt{k:K}{v:gw}{l:List E}(h:∀x,x∈S↔x∈l)(hk:k∉l.map (·.1))(x:E):x∈nf k v S↔x∈l++[(k,v)]:=by
 rw[mF,bQ,ay,h];constructor
 .rintro(h|⟨h,-⟩)
  .exact .inr h
  .exact .inl h
 .rintro(h1|h1)
  .exact .inr ⟨h1,fun e=>hk (aA.2 ⟨x,h1,e⟩)⟩
  .exact .inl h1
theorem FD(n B a h:Nat)(l:List Int)(F b d M:Nat->Prop)(H:gA)(P:iM)(x:AV)(bv:Q4)(body:gw)(w:Q0)(hm:jL w F b d a h H P x)(hM:∀k,F k\/b k\/d k->M k)(hO:qP n l H P)(hU:32<=n/\n<=128)(c4:iW H B)(hB:B<=800000000)(fd:P.lg.gF<8999999999999999999)(hL:O H.dp.iF<=7500000000000)(hP:gI w bv body)(c5:∀k,Rl bv=N k->¬F k/\k≠x.lg/\k<G (Q w))(fg:O body<=im)(bI:gZ w):
  Rg prog 111 #[Q5 (N ⟨a,0,J⟩),bv] w (j4 w M a h (rG H P body)):=by
 obtain⟨hJ,hN,rfl,-,-⟩:=hP.gU;have ap:Q8 (G (Q w)) w ((Ro w (Q1 #[Q5 (N ⟨a,0,J⟩)] 134)).alloc (Q1 #[Q6 hJ (O body) hN] 112)):=Below.al (Below.al (Below.rf w) _) _;have bl:=gP (Ro w (Q1 #[Q5 (N ⟨a,0,J⟩)] 134)) (Q1 #[Q6 hJ (O body) hN] 112) (gB w (Q1 #[Q5 (N ⟨a,0,J⟩)] 134));have av:=gB (Ro w (Q1 #[Q5 (N ⟨a,0,J⟩)] 134)) (Q1 #[Q6 hJ (O body) hN] 112);have hf:((Ro w (Q1 #[Q5 (N ⟨a,0,J⟩)] 134)).alloc (Q1 #[Q6 hJ (O body) hN] 112)).heap.size=G (Q w)+2:=by rw[aj,aj]
 rw[aj]at av;have Z:=gj hm;have bn:=gj hM;have s:=gj hO;have fi:=gj c4;have W:=gj c5;obtain⟨R,hR⟩:∃R,R=rG H P body:=⟨_,rfl⟩;have HR:=gj hR;rw[<-hR];have i:=hP.below ap;have bL:=bI.iI ap.size (ap.block _ bI.two);clear hm hM hO c4 c5 hR bI hP;go_enter func111,ntmps111;go_upto_region 1 with fail;generalize (Ro w (Q1 #[Q5 (N ⟨a,0,J⟩)] 134)).alloc (Q1 #[Q6 hJ (O body) hN] 112)=w0 at *
 have c6:=gj ap;have fk:=gj (Aq (Q6 hJ (O body) hN) body w0 i (fun k e=>by have:=(W.o k e).2.2;omega) fg bL);have hS:=gr 0 bl;have b0:=gr 0 av;have bM:=gm bl;have bN:=gm av;have fl:=gj bl;have e2:=gj av;have fn:=gj i;clear ap bl av i bL;go_wp2_with fail;refine fk.o.mono ?_;rintro e w1 ⟨i,bo⟩;have bO:=gj (c6.o.tn i);have br:=gC i bM fl.o;have aa:=gC i bN e2.o;cases m:tR body with
 | inr f=>obtain⟨hT,fp⟩:=f;rw[m]at bo;obtain⟨ev,rfl,c7⟩:=bo;have fo:=gj c7;obtain⟨g,rfl,-,-⟩:=c7;have j:gy (R=((H,P),N hT)):=gj (by rw[HR.o];unfold rG;rw[m]);have c8:Q8 (G (Q w1)) w1 (Ro w1 (Q1 #[I Re 0,Q6 J 0 0] 51)):=(Below.rf w1).alloc gH _;have bP:=gj c8;clear m i c8 br aa;go_wp2;refine ai (v:=Rb 171 (Q5 (N ⟨g,0,J⟩))) (by simp[results,results111,go_sem]) rfl ?_;unfold j4;rw[j.o];refine⟨⟨M,⟨F,b,d,x,(Z.o.below bO.o).below bP.o,bn.o⟩,fun k=>.inl,(gR.gO bO.o).trans (gR.gO bP.o)⟩,_,fp,rfl,?_⟩;obtain⟨g',e1,hW,hQ⟩:=fo.o;exact⟨g',e1,by omega,gC bP.o (gm hQ) hQ⟩
 | inl y=>
  obtain⟨v,os⟩:=y;rw[m]at bo;obtain⟨sv,rfl,ba⟩:=bo;obtain⟨sa,D,rfl⟩:=ba.shape;have bS:=m;rw[qD]at bS;obtain⟨bX,bs⟩:=xz _ _ _ bS;have fx:=gj bs;have b1:=gj bX;have fz:=gj (uO bX);have j:gy (R=(if v<=P.a.V then(H,{P with a:=P.a.oO})else if P.a.V+1<v then(H,{P with a:=P.a.ki})else su H P v (iO P.a.T os) (jH H P.lg body P.a.V P.a.T),J)):=gj (by rw[HR.o];unfold rG;rw[m]);have t2:Q8 (G (Q w1)) w1 (Ro w1 (Q1 #[I Re (v:Nat),Q6 sa (O os) D] 51)):=(Below.rf w1).alloc gH _;have D2:=gB w1 (Q1 #[I Re (v:Nat),Q6 sa (O os) D] 51);have fB:=gj (ba.below t2);have S:=gj (bO.o.tn t2);have bt:=gC t2 (gm br) br;have ak:=gC t2 (gm aa) aa;have hg:=i.size;clear bS bX bs ba m i br aa HR;go_upto_region 11 with fail;generalize Ro w1 (Q1 #[I Re (v:Nat),Q6 sa (O os) D] 51)=w2 at *
  have b4:=Z.o.below S.o;have q:=b4.ag.row;unfold AV.cells xi at q;have c1:=gr 1 q;have c0:=gr 0 q;have gz:=gm q;have d0:=gr 0 D2;have d1:=gr 1 D2;have g0:=gm D2;have a2:=gr 0 bt;have b2:=gr 0 ak;have g1:=gm bt;have g2:=gm ak;have X:=gj b4;have c9:=gj D2;have b5:=gj bt;have e3:=gj ak;have e4:=s.o.jh.v64;clear b4 q D2 bt ak hS b0 bM bN t2;obtain⟨V,hV⟩:∃V,V=P.a.V:=⟨_,rfl⟩;have HV:=gj hV;rw[<-hV]at c1 e4 j;clear hV;by_cases h1:v<=V
  .have fR:(v:Int)<=(V:Int):=by omega
   rw[aw h1]at j;clear h1;go_region
   all_goals
    go_wp2_with fail;refine(tG a h P x b d _ (X.o.below ((Below.rf w2).drew)).ag (by rw[<-HV.o];omega)).mono ?_;rintro e w3 ⟨rfl,hI⟩;have HG:=gj (jL.th (M:=M) (X.o.below ((Below.rf w2).drew)) (fun k hk=>.inl (bn.o k hk)) (gR.gO (S.o.tn ((Below.rf w2).drew))) hI);clear hI;go_wp2;go_ret;unfold j4;rw[j.o];exact⟨HG.o,rfl⟩
  .have fR:¬(v:Int)<=(V:Int):=by omega
   rw[af h1]at j;have hh:IntKind.u64.wrap ((V:Int)+1)=((V+1:Nat):Int):=by rw[show((V:Int)+1)=((V+1:Nat):Int) by omega];exact IntWalk.u64_in _ (by omega)
   by_cases h2:V+1<v
   .have f0:((V+1:Nat):Int)<(v:Int):=by omega
    rw[aw h2]at j;clear h1 h2;go_region
    all_goals
     go_wp2;go_region
     all_goals
      go_wp2_with fail;refine(np a h P x b d _ (X.o.below ((Below.rf w2).drew.drew)).ag (by rw[<-HV.o];omega)).mono ?_;rintro e w3 ⟨rfl,hI⟩;have HG:=gj (jL.th (M:=M) (X.o.below ((Below.rf w2).drew.drew)) (fun k hk=>.inl (bn.o k hk)) (gR.gO (S.o.tn ((Below.rf w2).drew.drew))) hI);clear hI;go_wp2;go_ret;unfold j4;rw[j.o];exact⟨HG.o,rfl⟩
   .have f0:¬((V+1:Nat):Int)<(v:Int):=by omega
    rw[af h2]at j;obtain rfl:v=V+1:=by omega
    clear h1 h2;go_region
    all_goals
     go_wp2;go_region
     all_goals
      go_wp2_with fail;refine(sL _).mono ?_;rintro e w3 ⟨rfl,b9,da,dc⟩;have bw:Q8 (G (Q w2)) w2 w3:=(Below.rf w2).drew.drew.tn da;have dk:=gj (show(G (Q w3))=G (Q w2)+2 from dc);have bx:=X.o.below bw;have u:=bx.ag.row;unfold AV.cells xi at u;have e0:=gr 0 u;have gn:=gm u;have ca:=gC bw (gm b5.o) b5.o;have a3:=gr 0 ca;have go:=gm ca;have f1:=gj bx;have f2:=gj bw;have dl:=gj b9;obtain⟨dn,L,cb,hI⟩:=bx.ag.jh;have HP:=gj hI;have ds:=gj dn;have cc:Rn w3 ⟨G (Q w2)+1,0,J⟩=N (.map (N (G (Q w2)))):=b9.cell;have g3:=gK cc;clear b9 da bw bx u ca dn hI c0 c1 dc;go_upto_region 3 with fail;go_wp2_with (first|(refine nE rfl _ rfl underlying162 rfl cb ?_;intro w4 e6 dv hi)|fail);clear cb;have g4:x.r<G (Q w3):=f1.o.ag.jh.lt;have f4:gy (x.r≠G (Q w2)):=gj (by have:=X.o.ag.jh.lt;omega)
      try go_frame
      go_loopw [8] (fun _ wr=>∃(pl Sl:List E),iJ wr x.r (G (Q w3)) L (pl.map zS)/\iE wr (G (Q w2)) Sl/\(∀y,y∈Sl↔y∈pl)/\gR (fun k=>k=G (Q w2)) w3 wr) (fun _ wr=>wr.rangeLeft x.r (G (Q w3)))
      case atStart=>exact⟨[],[],e6,dl.o.jh.iI (dv.block _ dl.o.jh.lt),fun y=>Iff.rfl,gR.gO dv⟩
      case round=>
       obtain⟨pl,Sl,a0,dT,cd,ce⟩:=hrel;have a1:=gj dT;have cg:=gj ce;have d2:=gj cd;clear dT ce cd;go_wp2_with (first|(refine oD rfl _ rfl rfl a0 ?_ ?_)|fail)
       .intro d3;have d4:=vL (ot a0.sub.2.2) ds.o.nodup (d3.trans HP.o);have d5:Sl=P.a.T:=a1.o.sorted.ext ds.o fun y=>(d2.o y).trans d4.mem_iff;rw[d5]at a1;have a4:gR (fun k=>k=G (Q w2)) w2 wr:=(gR.gO f2.o).trans cg.o;have tq:=cg.o.cell (p:=⟨G (Q w2)+1,0,J⟩) (show ¬(G (Q w2))+1=G (Q w2) by omega) cc;have hj:=gK tq;have Dr:=a4.at (show ¬(G (Q w1))=G (Q w2) by omega) c9.o;have y0:=gr 0 Dr;have y1:=gr 1 Dr;have hl:=gm Dr;have d6:jE wr (Q6 sa (O os) D) os:=(fB.o.frame a4.size fun k e hk=>a4.block k hk (show ¬k=G (Q w2) by omega)).sliceAt;have f5:=gj d6;have f6:=gj a4;have f7:=gj a1.o;clear d4 d5 Dr d6 a4 a0 d3 a3;go_upto_region 7 with fail;go_still_tail 4,(by kernel_rfl);go_wp2_with fail;refine(Dj (G (Q w2)+1) 0 (G (Q w2)) P.a.T (V+1) (Q6 sa (O os) D) os wr.drew ⟨tq,f7.o.iI rfl⟩ (f5.o.below ((Below.rf wr).drew)) (by have:=(qq b1.o).1;omega)).mono ?_;rintro e w5 ⟨rfl,ci,d7⟩;have a6:gR (fun k=>k=G (Q w2)) w2 w5:=f6.o.drew.trans d7;have d8:Q8 (G (Q w)) w w5:=S.o.trans (a6.below S.o.size fun k hk e=>by have:=S.o.size;omega);have a7:=gj d8;have hn:=gj ci;have t5:=d7.cell (p:=⟨G (Q w2)+1,0,J⟩) (show ¬(G (Q w2))+1=G (Q w2) by omega) (show Rn wr.drew _=_ from tq);have f8:=gj (⟨t5,ci⟩:jt w5 (G (Q w2)+1) 0 (G (Q w2)) (iO P.a.T os));have cl:=gj (a6.at (show ¬(G (Q w))=G (Q w2) by omega) b5.o);have e8:=gj (a6.at (show ¬(G (Q w))+1=G (Q w2) by omega) e3.o);have d9:=gj (a6.at (show ¬(G (Q w1))=G (Q w2) by omega) c9.o);have a5:=gr 0 cl.o;have ho:=gr 0 d9.o;have g7:=gm cl.o;have g8:=gm d9.o;clear a6 d8 ci t5 y0 y1;go_wp2_with fail;have g9:=a7.o.size;have bz:=Z.o.ag.glt;have bA:=Z.o.kQ.lt;have f9:=Z.o.ag.olt;have hb:=S.o.size;have eb:∀y∈iO P.a.T os,jB y:=((⟨aq _,s.o.jh.sorted,s.o.jh.mH⟩:lG (O P.a.T) P.a.T).fold b1.o).mH;have gp:(iO P.a.T os).length<=128:=by have h1:=sg os s.o.jh.sorted;have h2:=s.o.jh.len;have h3:=(qq b1.o).1;omega
        have C:=Gy H P.lg body P.a.V P.a.T;have hd:=Cb eb;have hp:(100:Nat)<=im:=by unfold im;omega
        have ec:=AE a h F b d M H P x (G (Q w2)+1) (G (Q w2)) (V+1) (iO P.a.T os) 154 #[Q5 (N ⟨G (Q w),0,J⟩),Q5 (N ⟨G (Q w)+1,0,J⟩)] (fun _ _=>by kernel_rfl) (jH H P.lg body P.a.V P.a.T) w5 (Z.o.below a7.o) bn.o f8.o
         ⟨fun e=>by have:=bA _ e;omega,fun e=>by have:=bz _ e;omega⟩ ⟨fun e=>by have:=bA _ e;omega,fun e=>by have:=bz _ e;omega,fun e=>by have:=f9 _ e;omega⟩
         (fun _=>MJ n B a h (G (Q w)) (G (Q w)+1) l F b d H P x (Q6 hJ (O body) hN) body w5 (Z.o.below a7.o) s.o fi.o hB fd (gE.frame fn.o fun k e _=>(a7.o.block k (W.o k e).2.2).trans (c6.o.block k (W.o k e).2.2).symm) (fun k e=>⟨(W.o k e).1,(W.o k e).2.1,by have:=(W.o k e).2.2;omega⟩) (by have:=fz.o.2;rw[fx.o]at this;omega) (gr 0 cl.o) (gr 0 e8.o) ⟨⟨fun e=>by have:=bA _ e;omega,fun e=>by have:=bz _ (e▸Z.o.ag.ru.2.2.1);omega⟩,fun e=>by have:=bA _ e;omega,fun e=>by have:=bz _ (e▸Z.o.ag.ru.2.2.1);omega⟩)
         (by rw[s.o.len];omega) (by omega) (by omega) ⟨by rw[C.1,s.o.dpS];have:=s.o.jh.len;omega,by rw[C.2.1];exact hL,C.2.2⟩ (fun y hy=>by rw[C.1,s.o.dpS]at hy;have:=(s.o.jh.mH y hy).small;omega) (fun y hy=>by have:=(eb y hy).small;omega) s.o.l4 (by omega)
        rw[show((V:Int)+1)=((V+1:Nat):Int) by omega];refine ec.mono ?_;rintro e U ⟨rfl,ed⟩;have HG:=gj (nS.trans (fun k hk=>hk.imp id fun e=>by omega) (gR.gO a7.o) ed);clear ec ed;go_wp2;go_ret;unfold j4;rw[j.o];have eg:=HG.o;rw[HV.o]at eg⊢;exact⟨eg,rfl⟩
       .intro kt kb v' U hx gb cm cn ej bs hr;obtain⟨⟨k',vb⟩,gc,e⟩:=aA.1 (HP.o.mem_iff.1 hx);cases e;have bc:iJ U x.r (G (Q w3)) L ((pl++[((kt,kb),vb)]).map zS):=by rw[bj];exact cm
        have co:=gj bc;have ge:=gj a0;have cp:gR (fun k=>k=G (Q w2)) w3 U:=cg.o.grow cn (.inr gH);have cq:=bc.sub.2.2;rw[vH,bj,cE]at cq;have gf:=gj (show(kt,kb)∉pl.map (·.1)from fun e=>cq.2.2 _ e _ (by simp) rfl);clear cm bc hx gb gc a0 cq;unfold nW at bs;unfold nW;have hX:=cp.cell (p:=⟨G (Q w),0,J⟩) (fun e=>by have e':G (Q w)=G (Q w2):=e;omega) a3;have al:=Below.al (Below.al (Below.rf U) (Q1 #[I Y kt,Q7 ⟨Rm kb⟩] 103)) (Q1 #[Q7 ⟨Rm vb⟩] 226);have K7:=gP (Ro U (Q1 #[I Y kt,Q7 ⟨Rm kb⟩] 103)) (Q1 #[Q7 ⟨Rm vb⟩] 226) (gB U (Q1 #[I Y kt,Q7 ⟨Rm kb⟩] 103));have V7:=gB (Ro U (Q1 #[I Y kt,Q7 ⟨Rm kb⟩] 103)) (Q1 #[Q7 ⟨Rm vb⟩] 226);rw[aj]at V7;have hs:=gj (show(G (Q U))=G (Q wr)from ej);clear ej;go_upto_region 6 with fail;generalize (Ro U (Q1 #[I Y kt,Q7 ⟨Rm kb⟩] 103)).alloc (Q1 #[Q7 ⟨Rm vb⟩] 226)=w7 at *
        have cr:gR (fun k=>k=G (Q w2)) w3 w7:=cp.EU al;have t7:=cr.cell (p:=⟨G (Q w2)+1,0,J⟩) (show ¬(G (Q w2))+1=G (Q w2) by omega) cc;have k0:=gr 0 K7;have k1:=gr 1 K7;have v0:=gr 0 V7;have ht:=gm K7;have hu:=gm V7;have hv:=gK t7;have bi:iE U (G (Q w2)) Sl:=a1.o.iI (cn.block _ a1.o.lt (fun e=>by have:=dk.o;have:=Option.some.inj e;omega));have cs:iE w7 (G (Q w2)) Sl:=bi.iI (al.block _ bi.lt);obtain⟨W8,hO,el,bB,gl⟩:=cs.put (mt:=162) underlying162 (kt,kb) vb;have em:=hO 1;have ct:∀w:Q0,w.drewN 1=w.drew:=fun _=>rfl;rw[ct,ct]at em;simp only[kV,nd,nW]at em;have en:gR (fun k=>k=G (Q w2)) w3 W8:=cr.grow bB (.inl rfl);have bD:=co.o.frame (al.block _ co.o.lt.1) (al.block _ co.o.lt.2);have cu:iJ W8 x.r (G (Q w3)) L ((pl++[((kt,kb),vb)]).map zS):=bD.frame (bB.block _ bD.lt.1 (fun e=>f4.o (Option.some.inj e))) (bB.block _ bD.lt.2 (fun e=>by have:=dk.o;have:=Option.some.inj e;omega));have eo:=cu.left;have er:=ge.o.left;simp only[aB,ab,ao,aI]at eo er
        have e9:=gj (show(∃(eD eS:List E),iJ W8.drew x.r (G (Q w3)) L (eD.map zS)/\iE W8.drew (G (Q w2)) eS/\(∀y,y∈eS↔y∈eD)/\gR (fun k=>k=G (Q w2)) w3 W8.drew)/\W8.drew.rangeLeft x.r (G (Q w3))<wr.rangeLeft x.r (G (Q w3)) from
         ⟨⟨_,_,cu,el,Nt d2.o gf.o,en.drew⟩,(show W8.rangeLeft x.r (G (Q w3))<wr.rangeLeft x.r (G (Q w3)) by omega)⟩)
        clear hO ct el bB gl en bD cu eo er bi cs cr K7 V7 al cp cn;go_region
        all_goals
         go_wp2;exact e9.o
def Ie:(gA×iM)×Option Nat->gA×iM
 | (R,none)=>R
 | ((H,P),some k)=>(H,{P with a:=P.a.pW k})
def Fg(H:gA)(P:iM)(k:UInt8)(body:gw)(b:(gA×iM)×Option Nat):(gA×iM)×Option Nat:=
 if k=1 then rG H P body else if k=2 then((H,if body=[]then {P with a:=P.a.ki}else P),if body=[]then J else N 2)else if k=3 then((H,{P with a:=(P.a.jJ body).1}),(P.a.jJ body).2)else if k=4 then b else((H,P),N 6)
def zG(H:gA)(P:iM)(frame:gw)(b:(gA×iM)×Option Nat):gA×iM:=
 if P.a.l4.isSome then(H,{P with a:=P.a.jM 13})else match lQ frame with
 | .inr f=>Ie ((H,P),some f.1)
 | .inl (k,body)=>Ie (Fg H P k body b)
theorem Pr(t:Q4)(w:Q0):Rg prog 104 #[.nilIface,t] w fun e w'=>e=Ra (.bool false)/\w'=w:=by go_enter func104,ntmps104;go_wp2;go_ret;exact⟨rfl,rfl⟩
theorem vC.out{a:Nat}{i:iM}{r:Option Nat}(hm:jL w F b d a h H P x)(l:∀k,F k\/b k\/d k->M k)(j:vC w b d a h i r e w'):j4 w M a h ((H,i),r) e w':=
 ⟨j.1.Lp hm l,j.2⟩
theorem j4.iN{a:Nat}(b:Q8 (G (Q w)) w w1)(i:j4 w1 M a h R e w'):j4 w M a h R e w':=by
 obtain⟨h1,d⟩:=i;refine⟨h1.iN b,?_⟩;obtain⟨R,r⟩:=R;cases r with
 | none=>exact d
 | some k=>obtain⟨ev,p,j,g,l,m,o⟩:=d;exact⟨ev,p,j,g,l,au b.size m,o⟩
theorem Hl{l:gw}(h:lQ l=.inr f):f.1<256:=by
 unfold lQ at h;split at h
 .cases h;simp
 .split at h
  .split at h
   .cases h
   .cases h;simp
  .cases h;simp
theorem nR.two{a:Nat}(h1:∀k,i k->d k\/G (Q w)<=k)(l:gR (fun j=>j=x.c) w w1)(m:nR w1 b i a h P x w'):nR w b d a h P x w':=m.trans h1 l
theorem xf{l:gw}{k:UInt8}{p:gw}(h:lQ l=.inl (k,p)):O p<=O l:=by
 unfold lQ at h;split at h
 .cases h
 .split at h
  .split at h
   .cases h;simp;omega
   .cases h
  .cases h
theorem Io(H:gA)(P:iM)(body:gw)(d:P.a.V<18446744073709551615)(k:Nat)(h:(rG H P body).2=N k):k<256/\(rG H P body).1.2.a.V<18446744073709551616:=by
 unfold rG at h⊢;split at h
 .rename_i f b;cases h;have:=BJ (by rw[<-qD];exact b);exact⟨by omega,by show P.a.V<_;omega⟩
 .cases h
theorem Kf(a:iy)(k:Nat):(a.jM k).V=a.V:=(lN a 18 [UInt8.ofNat k]).2.1
theorem KN(H:gA)(P:iM)(body:gw)(d:P.a.V<18446744073709551615)(k:Nat)(h:(((H,if body=[]then {P with a:=P.a.ki}else P),if body=[]then J else N 2):(gA×iM)×Option Nat).2=N k):k<256/\(((H,if body=[]then {P with a:=P.a.ki}else P),if body=[]then J else N 2):(gA×iM)×Option Nat).1.2.a.V<18446744073709551616:=by
 by_cases b:body=[]
 .rw[aw b,aw b]at h;cases h
 .rw[af b,af b]at h;rw[af b,af b];cases h;exact⟨by omega,by show P.a.V<_;omega⟩
theorem If(H:gA)(P:iM)(body:gw)(b:P.a.V<18446744073709551615)(k:Nat)(h:(((H,{P with a:=(P.a.jJ body).1}),(P.a.jJ body).2):(gA×iM)×Option Nat).2=N k):k<256/\(((H,{P with a:=(P.a.jJ body).1}),(P.a.jJ body).2):(gA×iM)×Option Nat).1.2.a.V<18446744073709551616:=by
 have key:∀k,(P.a.jJ body).2=N k->k<256/\(P.a.jJ body).1.V<18446744073709551616:=by
  intro k h;unfold iy.jJ at h⊢;split at h
  .rename_i c;rw[aw c];cases h;exact⟨by omega,by show P.a.V<_;omega⟩
  .rename_i c1;rw[af c1];split at h
   .rename_i c;rw[aw c];cases h;exact⟨by omega,by show P.a.V<_;omega⟩
   .rename_i c2;rw[af c2];split at h
    .rename_i c;rw[aw c];cases h;exact⟨by omega,by show P.a.V<_;omega⟩
    .rename_i c3;rw[af c3];split at h
     .rename_i c;rw[aw c];cases h;exact⟨by omega,by show P.a.V<_;omega⟩
     .split at h<;>cases h
 exact key k h
theorem j4.ev{a:Nat}(d:j4 w M a h R e w'):∃ev,e=Ra ev:=by
 obtain⟨-,b⟩:=d;obtain⟨R,r⟩:=R;cases r with
 | none=>exact⟨_,b⟩
 | some k=>obtain⟨ev,p,i,-⟩:=b;exact⟨ev,i⟩
theorem NQ(H:gA)(P:iM)(k:UInt8)(body:gw)(b:(gA×iM)×Option Nat)(d:P.a.V<18446744073709551615)(q:∀k,b.2=N k->k<256/\b.1.2.a.V<18446744073709551616)(j:Nat)(h:(Fg H P k body b).2=N j):j<256/\(Fg H P k body b).1.2.a.V<18446744073709551616:=by
 unfold Fg at h⊢;by_cases i:k=1
 .rw[aw i]at h⊢;exact Io H P body d j h
 .rw[af i]at h⊢;by_cases l:k=2
  .rw[aw l]at h⊢;exact KN H P body d j h
  .rw[af l]at h⊢;by_cases m:k=3
   .rw[aw m]at h⊢;exact If H P body d j h
   .rw[af m]at h⊢;by_cases o:k=4
    .rw[aw o]at h⊢;exact q j h
    .rw[af o]at h⊢;cases h;exact⟨by omega,by show P.a.V<_;omega⟩
theorem Cv(n B a h:Nat)(l:List Int)(F b d M:Nat->Prop)(H:gA)(P:iM)(x:AV)(bv:Q4)(frame:gw)(S4:(gA×iM)×Option Nat)(w:Q0)(hm:jL w F b d a h H P x)(hM:∀k,F k\/b k\/d k->M k)(hu:P.a.l4=J->qP n l H P)(hn:32<=n/\n<=128)(cp:iW H B)(hB:B<=800000000)(dk:P.lg.gF<8999999999999999999)(hL:O H.dp.iF<=7500000000000)(hb:gI w bv frame)(dl:O frame<=im)(cq:gZ w)(cr:kM w)(hv:P.a.V<18446744073709551615)(cs:∀k,M k->2<=k)(ct:∀body W v',P.a.l4=J->lQ frame=.inl (4,body)->Q8 (G (Q w)) w W->gS W (G (Q w)) 1 v' (O body) (l6 body)->Rg prog 114 #[Q5 (N ⟨a,0,J⟩),v'] W (j4 W M a h S4))(cu:∀k,S4.2=N k->k<256/\S4.1.2.a.V<18446744073709551616):
  Rg prog 68 #[Q5 (N ⟨a,0,J⟩),bv] w fun e w'=>e=Ra (Rc #[])/\nS w M a h (zG H P frame S4).1 (zG H P frame S4).2 w':=by
 obtain⟨e2,e3,rfl,-,-⟩:=hb.gU;have bb:=hm.ag.row;unfold AV.cells xi at bb;have c5:=gr 5 bb;have eo:=gm bb;have HM:=gj hm;have a9:=gj hM;have HU:=gj hu;have dn:=gj cp;have ds:=gj cq;have cv:=gj cr;have dv:=gj ct;have dT:=gj cu;have cB:=gj (Hw (Q6 e2 (O frame) e3) frame w hb dl);obtain⟨R,hR⟩:∃R,R=zG H P frame S4:=⟨_,rfl⟩;have HR:=gj hR;rw[<-hR];have aa:=hm.ag.MV;clear hm hM hu cp cq cr ct cu hR bb hb;rcases aa with ⟨ak,aa⟩|⟨f,fb,ak,aa⟩
 .rw[aa]at c5;have bM:=gj ak;clear ak aa;go_enter func68,ntmps68;go_wp2_with fail;refine cB.o.mono ?_;rintro e w1 ⟨bS,bN⟩;have C:=gj bS;have al:=gj (HM.o.below bS);clear bS;cases D:lQ frame with
  | inr f=>
   obtain⟨fk,fp⟩:=f;rw[D]at bN;obtain⟨ev,rfl,d0⟩:=bN;have HK:=gj (Hl D);have am:gy (R=Ie ((H,P),N fk)):=gj (by rw[HR.o];unfold zG;rw[bM.o,D];rfl);obtain⟨g,rfl,d1,u⟩:=d0;have bk:gy (fk<256/\P.a.V<18446744073709551616):=gj ⟨HK.o,by omega⟩;clear D;have bl:nS w M a h H P w1:=⟨M,⟨F,b,d,x,al.o,a9.o⟩,fun k=>.inl,gR.gO C.o⟩;obtain⟨M2,bc,ap,av⟩:=bl;obtain⟨F2,G2,O2,x2,q,aE⟩:=bc;have e0:Q8 (G (Q w1)) w1 (Ro w1 (Q1 #[Q5 J] 171)):=(Below.rf w1).alloc gH _;have t0:=gB w1 (Q1 #[Q5 J] 171);have a0:kM w1:=cv.o.ext av cs;have a1:=a0.new e0;have bn:=q.below e0;have a2:=gC e0 (gm u) u;have b1:=gj av;have b2:=gj (show ∀k,F2 k\/G2 k\/O2 k->M k\/G (Q w)<=k from fun k hk=>ap k (aE k hk));have b3:=gj bn;have bo:=gj a2;have d2:=gm a2;have a3:=gj (⟨q.kQ.lt,q.ag.glt,q.ag.olt⟩:(∀k,F2 k->k<G (Q w1))/\(∀k,G2 k->k<G (Q w1))/\∀k,O2 k->k<G (Q w1));clear q av ap aE u a0 bn a2;go_wp2_with fail;generalize Ro w1 (Q1 #[Q5 J] 171)=wA at *
   refine(Ag ⟨g,0,J⟩ ⟨G (Q w1),0,J⟩ (Q5 J) wA a1.2 (gr 0 t0) (by rw[gD 0 t0])).mono ?_;rintro e w3 ⟨rfl,br⟩;have x1:=xH ⟨g,0,J⟩ ⟨G (Q w1),0,J⟩ wA;have t1:=Ai ⟨g,0,J⟩ (G (Q w1)) wA t0;rw[<-br]at x1 t1;have a5:g≠G (Q w1):=kK bo.o t0 (by decide);have bs:Q8 (G (Q w1)) w1 w3:=e0.trans (x1.below (by have:=e0.size;omega) (fun k hk e=>by have e':k=G (Q w1):=e;omega));have a6:=x1.at (fun e=>a5 e) bo.o;have c0:=gr 0 t1;have g0:=gr 0 a6;have b4:=gm t1;have b5:=gm a6;have bt:=b3.o.frame x1 (fun k hk e=>by
    have e':k=G (Q w1):=e;rcases hk with hk|hk|hk
    .exact absurd (a3.o.1 k hk) (by omega)
    .exact absurd (a3.o.2.1 k hk) (by omega)
    .exact absurd (a3.o.2.2 k hk) (by omega))
   have bw:=gj bt;have b6:=gj bs;clear br x1 t1 a5 bs a6 bt t0 e0 a1;go_wp2_with fail;refine(pw a h fk P x2 G2 O2 w3 bw.o.ag bk.o.1).mono ?_;rintro e w4 ⟨rfl,Z⟩;obtain⟨O4,bx,bz,bA⟩:=Z;have b8:=gj bx;have b9:=gj bz;have ca:=gj bA;clear bx bz bA c0 g0 b4 b5;go_wp2_with fail;refine(np a h _ x2 G2 O4 w4 b8.o (by show(iy.jM _ _).V<_;rw[Kf];exact bk.o.2)).mono ?_;rintro e w5 ⟨rfl,Z⟩;have bB:=nR.trans b9.o ca.o Z;have HG:=gj (jL.th (M:=M) (w:=w) bw.o b2.o (b1.o.trans (gR.gO b6.o)) bB);clear Z bB;go_wp2;go_end0;refine⟨rfl,?_⟩;rw[am.o];exact HG.o
  | inl y=>
   obtain⟨E,body⟩:=y;rw[D]at bN;obtain⟨bO,rfl,s⟩:=bN;have bD:=gj s;have cb:=gj (xf D);have d3:=gj D;have c1:=gj (NQ H P E body S4 hv dT.o);have am:gy (R=Ie (Fg H P E body S4)):=gj (by rw[HR.o];unfold zG;rw[bM.o,D];rfl);obtain⟨S,hS⟩:∃S,S=Fg H P E body S4:=⟨_,rfl⟩;rw[<-hS]at c1 am;have HS:=gj hS;clear D hS s;go_upto_if 22 with fail;go_cut [6] (fun ev wx=>j4 w M a h S (Ra ev) wx)
   case first=>
    have kf:∀m:Nat,E≠UInt8.ofNat m->m<256->¬((E.toNat:Int)=(m:Int)):=fun m a5 hm e=>by
     have h2:(UInt8.ofNat m).toNat=m:=by rw[fe];omega
     exact a5 (by rw[<-dO,h2];omega)
    by_cases k1:E=1
    .subst k1;have U:gy (S=rG H P body):=gj (by rw[HS.o];unfold Fg;rw[aw rfl]);have s:=bD.o;have hD:=FD n B a h l F b d M H P x bO body w1 al.o a9.o (HU.o bM.o) hn dn.o hB dk hL s.bytes (fun k e=>⟨fun e'=>by have:=s.ie k e;have:=HM.o.kQ.lt k e';omega,fun e'=>by have:=s.ie k e;have:=HM.o.ag.glt x.lg HM.o.ag.ru.2.2.1;omega,s.iA k e⟩) (by have:=cb.o;omega) (ds.o.new C.o);clear s;go_wp2_with fail;refine hD.mono ?_;rintro e w2 j;have i:=j4.iN C.o j;rw[<-U.o]at i;obtain⟨ev,rfl⟩:=i.ev;have X:=gj i;clear j i hD;go_wp2;go_meet
     case rel=>exact X.o
    .by_cases k2:E=2
     .subst k2;have U:gy (S=((H,if body=[]then {P with a:=P.a.ki}else P),if body=[]then J else N 2)):=gj (by rw[HS.o];rfl);have hD:=FC a h P x b d bO body w1 al.o.ag (by omega) bD.o.bytes (by have:=cb.o;omega);go_wp2_with fail;refine hD.mono ?_;rintro e w2 j;have i:=j4.iN C.o (vC.out al.o a9.o j);rw[<-U.o]at i;obtain⟨ev,rfl⟩:=i.ev;have X:=gj i;clear j i hD;go_wp2;go_meet
      case rel=>exact X.o
     .by_cases k3:E=3
      .subst k3;have U:gy (S=((H,{P with a:=(P.a.jJ body).1}),(P.a.jJ body).2)):=gj (by rw[HS.o];rfl);have hD:=Em a h P x b d bO body w1 al.o.ag (by omega) bD.o.bytes bD.o.iA (by have:=cb.o;omega);go_wp2_with fail;refine hD.mono ?_;rintro e w2 j;have i:=j4.iN C.o (vC.out al.o a9.o j);rw[<-U.o]at i;obtain⟨ev,rfl⟩:=i.ev;have X:=gj i;clear j i hD;go_wp2;go_meet
       case rel=>exact X.o
      .by_cases k4:E=4
       .subst k4;have U:gy (S=S4):=gj (by rw[HS.o];rfl);have hD:=dv.o body w1 bO bM.o d3.o C.o bD.o;go_wp2_with fail;refine hD.mono ?_;rintro e w2 j;have i:=j4.iN C.o j;rw[<-U.o]at i;obtain⟨ev,rfl⟩:=i.ev;have X:=gj i;clear j i hD;go_wp2;go_meet
        case rel=>exact X.o
       .have U:gy (S=((H,P),N 6)):=gj (by rw[HS.o];unfold Fg;rw[af k1,af k2,af k3,af k4]);have n1:=kf 1 k1 (by omega);have n2:=kf 2 k2 (by omega);have n3:=kf 3 k3 (by omega);have n4:=kf 4 k4 (by omega);have q1:(((E.toNat:Int))==1)=false:=ar.2 n1;have q2:(((E.toNat:Int))==2)=false:=ar.2 n2;have q3:(((E.toNat:Int))==3)=false:=ar.2 n3;have q4:(((E.toNat:Int))==4)=false:=ar.2 n4;clear k1 k2 k3 k4 kf;generalize E.toNat=er at *
        go_wp2_with fail;refine(lj 6 0 w1).mono ?_;rintro e w2 ⟨rfl,ce⟩;have cg:Q8 (G (Q w1)) w1 w2:=by rw[ce];exact(Below.rf w1).alloc gH _
        have u:w2.heap[G (Q w1)]?=N (Q1 #[I Y ((6:Nat):Int),I Y 0,.nilIface] 186 (0,0)):=by rw[ce];exact gB w1 _
        have X:gy (j4 w M a h S (Ra (Rb 171 (Q5 (N ⟨G (Q w1),0,J⟩)))) w2):=gj (by rw[U.o];exact⟨⟨M,⟨F,b,d,x,al.o.below cg,a9.o⟩,fun k=>.inl,(gR.gO C.o).trans (gR.gO cg)⟩,_,0,rfl,_,rfl,C.o.size,u⟩);clear ce cg u;go_wp2;go_meet
        case rel=>exact X.o
   case rest=>
    have j:=hcut;clear hcut;obtain⟨⟨H2,P2⟩,r⟩:=S;obtain⟨bl,bL⟩:=j;cases r with
    | none=>have ba:Ra u6=Ra .nilIface:=bL;obtain rfl:=Ending.returned.inj ba;have HG:=gj bl;clear bl bL ba;go_wp2_with fail;refine(Pr _ _).mono ?_;rintro e w3 ⟨rfl,rfl⟩;go_wp2;go_end0;refine⟨rfl,?_⟩;rw[am.o];exact HG.o.below ((Below.rf wc).alloc gH _)
    | some k=>
     obtain⟨ev',p,ba,g,ci,d1,u⟩:=bL;rw[ci]at ba;obtain rfl:=Ending.returned.inj ba;have bk:gy (k<256/\P2.a.V<18446744073709551616):=gj (c1.o k rfl);clear ba ci;obtain⟨M2,bc,ap,av⟩:=bl;obtain⟨F2,G2,O2,x2,q,aE⟩:=bc;have e0:Q8 (G (Q wc)) wc (Ro wc (Q1 #[Q5 J] 171)):=(Below.rf wc).alloc gH _;have t0:=gB wc (Q1 #[Q5 J] 171);have a0:kM wc:=cv.o.ext av cs;have a1:=a0.new e0;have bn:=q.below e0;have a2:=gC e0 (gm u) u;have b1:=gj av;have b2:=gj (show ∀k,F2 k\/G2 k\/O2 k->M k\/G (Q w)<=k from fun k hk=>ap k (aE k hk));have b3:=gj bn;have bo:=gj a2;have d2:=gm a2;have a3:=gj (⟨q.kQ.lt,q.ag.glt,q.ag.olt⟩:(∀k,F2 k->k<G (Q wc))/\(∀k,G2 k->k<G (Q wc))/\∀k,O2 k->k<G (Q wc));clear q av ap aE u a0 bn a2;go_wp2_with fail;generalize Ro wc (Q1 #[Q5 J] 171)=wA at *
     refine(Ag ⟨g,0,J⟩ ⟨G (Q wc),0,J⟩ (Q5 J) wA a1.2 (gr 0 t0) (by rw[gD 0 t0])).mono ?_;rintro e w3 ⟨rfl,br⟩;have x1:=xH ⟨g,0,J⟩ ⟨G (Q wc),0,J⟩ wA;have t1:=Ai ⟨g,0,J⟩ (G (Q wc)) wA t0;rw[<-br]at x1 t1;have a5:g≠G (Q wc):=kK bo.o t0 (by decide);have bs:Q8 (G (Q wc)) wc w3:=e0.trans (x1.below (by have:=e0.size;omega) (fun k hk e=>by have e':k=G (Q wc):=e;omega));have a6:=x1.at (fun e=>a5 e) bo.o;have c0:=gr 0 t1;have g0:=gr 0 a6;have b4:=gm t1;have b5:=gm a6;have bt:=b3.o.frame x1 (fun k hk e=>by
      have e':k=G (Q wc):=e;rcases hk with hk|hk|hk
      .exact absurd (a3.o.1 k hk) (by omega)
      .exact absurd (a3.o.2.1 k hk) (by omega)
      .exact absurd (a3.o.2.2 k hk) (by omega))
     have bw:=gj bt;have b6:=gj bs;clear br x1 t1 a5 bs a6 bt t0 e0 a1;go_wp2_with fail;refine(pw a h k P2 x2 G2 O2 w3 bw.o.ag bk.o.1).mono ?_;rintro e w4 ⟨rfl,Z⟩;obtain⟨O4,bx,bz,bA⟩:=Z;have b8:=gj bx;have b9:=gj bz;have ca:=gj bA;clear bx bz bA c0 g0 b4 b5;go_wp2_with fail;refine(np a h _ x2 G2 O4 w4 b8.o (by show(iy.jM _ _).V<_;rw[Kf];exact bk.o.2)).mono ?_;rintro e w5 ⟨rfl,Z⟩;have bB:=nR.trans b9.o ca.o Z;have HG:=gj (jL.th (M:=M) (w:=w) bw.o b2.o (b1.o.trans (gR.gO b6.o)) bB);clear Z bB;go_wp2;go_end0;refine⟨rfl,?_⟩;rw[am.o];exact HG.o
 .rw[aa]at c5;have am:gy (R=(H,{P with a:=P.a.jM 13})):=gj (by rw[HR.o];unfold zG;rw[ak];rfl);clear ak aa cB;go_enter func68,ntmps68;go_wp2_with fail;refine(pw a h 13 P x b d w HM.o.ag (by omega)).mono ?_;rintro e w1 ⟨rfl,Z⟩;have HG:=gj (jL.th (M:=M) HM.o (fun k hk=>.inl (a9.o k hk)) (gR.refl M w) Z);clear Z;go_wp2;refine ai (ef rfl _ _ _) rfl ?_;refine⟨rfl,?_⟩;rw[am.o];exact HG.o
def nY(H:gA)(P:iM)(tv:Nat)(bytes:gw):(gA×iM)×Option Nat:=match kJ bytes with
 | .inr f=>((H,P),some f.1)
 | .inl (v,T)=>if v≠tv then((H,P),some 4)else if v<=P.a.V then((H,{P with a:=P.a.oO}),none)else(su H P v T (iz H P.lg v T),none)
def qh(H:gA)(P:iM)(body:gw):(gA×iM)×Option Nat:=
 if(O body)<2 then((H,P),N 1)else if 65<O body then((H,P),N 2)
 else match P.a.me with
 | none=>((H,{P with a:=P.a.ki}),none)
 | some (tv,of,got)=>
  if(body.getD 0 0).toNat≠O got then((H,{P with a:=P.a.lX}),J)
  else if(O got)+1<of then((H,{P with a:=iy.lX {P.a with me:=N (tv,of,got++[body.drop 1])}}),J)
  else nY H {P with a:={P.a with me:=J}} tv (got++[body.drop 1]).flatten
theorem NL(n B a h m s u q r v:Nat)(l:List Int)(F b d:Nat->Prop)(H:gA)(P:iM)(x:AV)(T:List E)(w:Q0)(hm:jL w F b d a h H P x)(hu:qP n l H P)(av:iW H B)(hB:B<=800000000)(bb:P.lg.gF<8999999999999999999)(hv:v<18446744073709551616)(he:jt w q 0 r T)(aE:jw T<=16*(O H.gG-8))(a0:O T<65536)(hg:∀y∈T,jB y)(ha:Rn w ⟨m,0,J⟩=N (Q5 (N ⟨a,0,J⟩)))(R:Rn w ⟨s,0,J⟩=N (I Re (v:Nat)))(S:Rn w ⟨u,0,J⟩=N (Q5 (N ⟨q,0,J⟩)))(C:(¬F m/\m≠x.lg)/\(¬F s/\s≠x.lg)/\¬F u/\u≠x.lg):
  Ae 193 #[Q5 (N ⟨m,0,J⟩),Q5 (N ⟨s,0,J⟩),Q5 (N ⟨u,0,J⟩)] w x F h (iz H P.lg v T):=by
 intro W U;have j:=hm.below U;have D:=j.ag.row;unfold AV.cells xi at D;have c2:=gr 2 D;have bc:=gm D;have ca:=(U.cell (p:=⟨m,0,J⟩) (gK ha)).trans ha;have cv:=(U.cell (p:=⟨s,0,J⟩) (gK R)).trans R;have ct:=(U.cell (p:=⟨u,0,J⟩) (gK S)).trans S;have Z:=he.below U;have V:=j.ag.ru
 have a1:=gj (fun(i:Q0) (hY:Q8 (G (Q W)) W i)=>zr x.lg h F H P.lg B q 0 r v T i (gC hY (gm j.ag.iF) j.ag.iF) (j.kQ.below hY) av (by omega) (fun e=>j.fg _ e V.2.2.1)
  (Z.below hY) hu.iC aE a0 hv (fun y hy=>(hg y hy).small) (by omega))
 have halt:=gK ca;have a7:=gK cv;have a8:=gK ct;have M:=gj (show ¬(F m\/m=x.lg)/\¬(F s\/s=x.lg)/\¬(F u\/u=x.lg)/\¬(F a\/a=x.lg)from⟨fun e=>e.elim C.1.1 C.1.2,fun e=>e.elim C.2.1.1 C.2.1.2,fun e=>e.elim C.2.2.1 C.2.2.2,fun e=>e.elim (fun e=>j.fg _ e V.1) fun e=>kK j.ag.row j.ag.iF (by decide) e⟩);clear hm j D V ha R S he Z;go_enter func193,ntmps193;go_wp2
 go_region_held3 (fun w'=>Rn w' ⟨m,0,J⟩=N (Q5 (N ⟨a,0,J⟩))/\Rn w' ⟨s,0,J⟩=N (I Re (v:Nat))/\Rn w' ⟨u,0,J⟩=N (Q5 (N ⟨q,0,J⟩))/\Rn w' ⟨a,2,J⟩=N (Q5 (N ⟨x.lg,0,J⟩)))
  (first|exact⟨ca,cv,ct,c2⟩|(obtain⟨F',g1,g2,X⟩:=h3;exact⟨X.cell (p:=⟨m,0,J⟩) M.o.1 ca,X.cell (p:=⟨s,0,J⟩) M.o.2.1 cv,X.cell (p:=⟨u,0,J⟩) M.o.2.2.1 ct,X.cell (p:=⟨a,2,J⟩) M.o.2.2.2 c2⟩))
  (first|(go_at_call 190;refine(a1.o _ (by first|exact(Below.rf W).drew|exact Below.rf W)).mono ?_;rintro e w1 ⟨rv,rfl,h1,h2,h3,h4⟩))
 all_goals
  have HR:=gj (⟨h1,h2,h3⟩:Dd _ w1 rv (iz H P.lg v T).2.2/\jl w1 x.lg h (iz H P.lg v T).2.1/\kc _ F (fun k=>k=x.lg) h (iz H P.lg v T).1 w1);clear h1 h2 h3 h4;go_wp2;go_ret;exact⟨_,rfl,HR.o.1,HR.o.2.1,kc.iN ((Below.rf W).drew) HR.o.2.2⟩
theorem Ct(n B a h cb:Nat)(l:List Int)(F b d M:Nat->Prop)(H:gA)(P:iM)(x:AV)(bv ov gv:Q4)(tv:Nat)(bytes:gw)(w:Q0)(hm:jL w F b d a h H P x)(hM:∀k,F k\/b k\/d k->M k)(hu:qP n l H P)(hn:32<=n/\n<=128)(bk:iW H B)(hB:B<=800000000)(b6:P.lg.gF<8999999999999999999)(hL:O H.dp.iF<=7500000000000)(hc:w.heap[cb]?=N (Q1 #[I Re (tv:Nat),ov,gv,bv] 257 (0,0)))(hb:gI w bv bytes)(bl:∀k,Rl bv=N k->k<G (Q w))(b8:O bytes<=im)(aE:gZ w)(dk:tv<18446744073709551616):
  Rg prog 159 #[Q5 (N ⟨a,0,J⟩),Q5 (N ⟨cb,0,J⟩)] w (j4 w M a h (nY H P tv bytes)):=by
 obtain⟨d5,bc,rfl,-,-⟩:=hb.gU;have u:Q8 (G (Q w)) w (Ro w (Q1 #[Q5 (N ⟨a,0,J⟩)] 134)):=(Below.rf w).alloc gH _;have bn:=gB w (Q1 #[Q5 (N ⟨a,0,J⟩)] 134);have dl:(Ro w (Q1 #[Q5 (N ⟨a,0,J⟩)] 134)).heap.size=G (Q w)+1:=aj _ _;have D:=gj hm;have W:=gj hM;have E:=gj hu;have b9:=gj bk;obtain⟨R,hR⟩:∃R,R=nY H P tv bytes:=⟨_,rfl⟩;have HR:=gj hR;rw[<-hR];have m:=hb.below u;have a0:=aE.iI u.size (u.block _ aE.two);have X:=gC u (gm hc) hc;have cv:=gm hc;clear hm hM hu bk hR aE hb hc;go_enter func159,ntmps159;go_upto_region 1 with fail;generalize Ro w (Q1 #[Q5 (N ⟨a,0,J⟩)] 134)=w0 at *
 have a1:=gj u;have ca:=gj (vW (Q6 d5 (O bytes) bc) bytes w0 m (fun k e=>by have:=bl k e;omega) b8 a0);have g3:=gr 3 X;have bO:=gm X;have bo:=gj bn;have cc:=gj X;clear u bn m a0 X bl;go_wp2_with fail;refine ca.o.mono ?_;rintro e w1 ⟨m,Z⟩;have a3:=gj (a1.o.tn m);have aa:=gC m (gm bo.o) bo.o;have ak:=gC m bO cc.o;cases i:kJ bytes with
 | inr f=>obtain⟨fk,fp⟩:=f;rw[i]at Z;obtain⟨ev,rfl,br⟩:=Z;have cd:=gj br;obtain⟨g,rfl,-,-⟩:=br;have j:gy (R=((H,P),N fk)):=gj (by rw[HR.o];unfold nY;rw[i]);have bs:Q8 (G (Q w1)) w1 ((Ro w1 (Q1 #[I Re 0] 48)).alloc (Q1 #[Q5 J] 118)):=Below.al (Below.al (Below.rf w1) _) _;have a4:=gj bs;clear i m bs aa ak g3;go_wp2;refine ai (v:=Rb 171 (Q5 (N ⟨g,0,J⟩))) (by simp[results,results159,go_sem]) rfl ?_;unfold j4;rw[j.o];refine⟨⟨M,⟨F,b,d,x,(D.o.below a3.o).below a4.o,W.o⟩,fun k=>.inl,(gR.gO a3.o).trans (gR.gO a4.o)⟩,_,fp,rfl,?_⟩;obtain⟨g',e1,e2,e3⟩:=cd.o;exact⟨g',e1,by have:=a1.o.size;omega,gC a4.o (gm e3) e3⟩
 | inl y=>
  obtain⟨v,T⟩:=y;rw[i]at Z;obtain⟨r,rfl,a5,dn⟩:=Z;obtain⟨bt,bw,-⟩:=py i;obtain⟨ds,cg⟩:=sd i;have a6:=nK bt;have a7:=gj bw;have j:gy (R=if v≠tv then((H,P),N 4)else if v<=P.a.V then((H,{P with a:=P.a.oO}),J)else(su H P v T (iz H P.lg v T),J)):=gj (by rw[HR.o];unfold nY;rw[i]);have t2:Q8 (G (Q w1)) w1 ((Ro w1 (Q1 #[I Re (v:Nat)] 48)).alloc (Q1 #[Q5 (N ⟨r+1,0,J⟩)] 118)):=Below.al (Below.al (Below.rf w1) _) _;have V2:=gP (Ro w1 (Q1 #[I Re (v:Nat)] 48)) (Q1 #[Q5 (N ⟨r+1,0,J⟩)] 118) (gB w1 (Q1 #[I Re (v:Nat)] 48));have T2:=gB (Ro w1 (Q1 #[I Re (v:Nat)] 48)) (Q1 #[Q5 (N ⟨r+1,0,J⟩)] 118);rw[aj]at T2;have C:=gj (a3.o.tn t2);have a8:=gC t2 (gm aa) aa;have a9:=gC t2 (gm ak) ak;have bx:=a5.below t2;have dv:=m.size;have dT:=a5.lt;clear bt bw i m aa ak a5 HR g3 cg;go_upto_region 5 with fail;generalize (Ro w1 (Q1 #[I Re (v:Nat)] 48)).alloc (Q1 #[Q5 (N ⟨r+1,0,J⟩)] 118)=w2 at *
  have ba:=D.o.below C.o;have q:=ba.ag.row;unfold AV.cells xi at q;have c1:=gr 1 q;have c3:=gm q;have v0:=gr 0 V2;have ci:=gr 0 T2;have c5:=gm V2;have c6:=gm T2;have a2:=gr 0 a8;have g0:=gr 0 a9;have c7:=gm a8;have c8:=gm a9;have am:=gj ba;have bz:=gj bx;clear ba q V2 T2 a8 a9 bx t2;obtain⟨V,hV⟩:∃V,V=P.a.V:=⟨_,rfl⟩;have HV:=gj hV;have bS:=E.o.jh.v64;rw[<-hV]at c1 bS j;clear hV;by_cases h0:v=tv
  .subst h0;rw[af (by omega)]at j;go_region
   all_goals
    by_cases ap:v<=V
    .have b0:(v:Int)<=(V:Int):=by omega
     rw[aw ap]at j;clear ap;go_wp2;go_region
     all_goals
      go_wp2_with fail;refine(tG a h P x b d _ (am.o.below ((Below.rf w2).drew.drew)).ag (by rw[<-HV.o];omega)).mono ?_;rintro e w3 ⟨rfl,hp⟩;have HG:=gj (jL.th (M:=M) (am.o.below ((Below.rf w2).drew.drew)) (fun k hk=>.inl (W.o k hk)) (gR.gO (C.o.tn ((Below.rf w2).drew.drew))) hp);clear hp;go_wp2;go_ret;unfold j4;rw[j.o];exact⟨HG.o,rfl⟩
    .have b0:¬(v:Int)<=(V:Int):=by omega
     rw[af ap]at j;clear ap;go_wp2;go_region
     all_goals
      have S:=D.o.ag.glt;have U:=D.o.kQ.lt;have cm:=D.o.ag.olt;have c9:=a1.o.size;have da:=C.o.size;have s:=xO H P.lg v T;have dc:=Cb a7.o;have d0:(100:Nat)<=im:=by unfold im;omega
      have av:Q8 (G (Q w2)) w2 w2.drew.drew:=(Below.rf w2).drew.drew;have bA:=am.o.below av
      have bB:=AE a h F b d M H P x (r+1) r v T 193 #[Q5 (N ⟨G (Q w),0,J⟩),Q5 (N ⟨G (Q w1),0,J⟩),Q5 (N ⟨G (Q w1)+1,0,J⟩)] (fun _ _=>by kernel_rfl) (iz H P.lg v T) w2.drew.drew bA W.o (bz.o.below av)
       ⟨fun e=>by have:=U _ e;omega,fun e=>by have:=S _ e;omega⟩ ⟨fun e=>by have:=U _ e;omega,fun e=>by have:=S _ e;omega,fun e=>by have:=cm _ e;omega⟩
       (fun b2=>NL n B a h (G (Q w)) (G (Q w1)) (G (Q w1)+1) (r+1) r v l F b d H P x T w2.drew.drew bA E.o b9.o hB b6 a6 (bz.o.below av) (Bs b2).2 (by omega) a7.o a2 v0 ci
         ⟨⟨fun e=>by have:=U _ e;omega,fun e=>by have:=S _ (e▸D.o.ag.ru.2.2.1);omega⟩,⟨fun e=>by have:=U _ e;omega,fun e=>by have:=S _ (e▸D.o.ag.ru.2.2.1);omega⟩,fun e=>by have:=U _ e;omega,fun e=>by have:=S _ (e▸D.o.ag.ru.2.2.1);omega⟩)
       (by rw[E.o.len];omega) (by omega) (by omega) ⟨by rw[s.1,E.o.dpS];have:=E.o.jh.len;omega,by rw[s.2.1];exact hL,s.2.2⟩ (fun y hy=>by rw[s.1,E.o.dpS]at hy;have:=(E.o.jh.mH y hy).small;omega) (fun y hy=>by have:=(a7.o y hy).small;omega) E.o.l4 a6
      have cn:=gj bB;clear bB;go_wp2_with fail;refine cn.o.mono ?_;rintro e w6 ⟨rfl,bD⟩;have HG:=gj (nS.trans (fun k hk=>hk.imp id fun e=>by omega) (gR.gO (C.o.tn av)) bD);clear bD;go_wp2;go_ret;unfold j4;rw[j.o];exact⟨HG.o,rfl⟩
  .have d1:¬((v:Int)=(tv:Int)):=by omega
   rw[aw h0]at j;clear h0;go_region
   all_goals
    go_wp2_with fail;refine(lj 4 0 _).mono ?_;rintro e w3 ⟨rfl,bb⟩;have bE:Q8 (G (Q w2)) w2 w3:=by rw[bb];exact((Below.rf w2).drew).alloc gH _
    have bH:w3.heap[w2.drew.heap.size]?=N (Q1 #[I Y ((4:Nat):Int),I Y 0,.nilIface] 186 (0,0)):=by rw[bb];exact gB w2.drew _
    have bI:=gj bE;have co:=gj bH;clear bb bE bH;go_wp2;go_ret;unfold j4;rw[j.o];refine⟨⟨M,⟨F,b,d,x,am.o.below bI.o,W.o⟩,fun k=>.inl,(gR.gO C.o).trans (gR.gO bI.o)⟩,_,0,rfl,_,rfl,?_,co.o⟩;have:=C.o.size;exact this
theorem zL(H:gA)(P:iM)(tk:iV):su H P tk.V (tk.T P.a.T) (tk.iF H P)=nz H P tk:=by
 unfold su nz;cases jG (tk.T P.a.T) H.dp.room (O H.gG) with
 | some f=>rfl
 | none=>generalize tk.iF H P=q;obtain⟨H1,g1,r⟩:=q;cases r<;>rfl
def Ch(H:gA)(P:iM):iy×Option iV->gA×iM
 | (a1,none)=>(H,{P with a:=a1})
 | (a1,some tk)=>nz H {P with a:=a1} tk
theorem Jp(H:gA)(P:iM)(frame:gw):mn H P frame=Ch H P (P.a.taken frame):=by unfold mn Ch;rfl
theorem Ip(H:gA)(P:iM)(body:gw):Ie (rG H P body)=Ch H P (P.a.delta body):=by
 unfold rG iy.delta;cases i:tR body with
 | inr f=>rfl
 | inl y=>
  obtain⟨v,os⟩:=y;simp only;split
  .rfl
  .split
   .rfl
   .have b:=i;rw[qD]at b;obtain⟨-,d⟩:=xz _ _ _ b;rw[<-d];exact zL H P (.delta v os)
theorem Eo(H:gA)(P:iM)(tv:Nat)(bytes:gw):Ie (nY H P tv bytes)=Ch H P (P.a.mV tv bytes):=by
 unfold nY iy.mV;cases b:kJ bytes with
 | inr f=>rfl
 | inl y=>
  obtain⟨v,T⟩:=y;simp only;split
  .rfl
  .split
   .rfl
   .exact zL H P (.nG v T)
theorem Md(H:gA)(P:iM)(b:iy)(q:iy×Option iV):Ch H {P with a:=b} q=Ch H P q:=by obtain⟨a1,r⟩:=q;cases r<;>rfl
theorem Ji(H:gA)(P:iM)(body:gw):Ie (qh H P body)=Ch H P (P.a.piece body):=by
 unfold qh iy.piece;split
 .rfl
 .split
  .rfl
  .cases P.a.me with
   | none=>rfl
   | some y=>
    obtain⟨tv,of,got⟩:=y;simp only;split
    .rfl
    .split
     .rfl
     .rw[Eo];exact Md _ _ _ _
theorem FM(a:iy)(body:gw)(k:Nat)(h:(a.jJ body).2=N k):(a.jJ body).1=a:=by
 unfold iy.jJ at h⊢;split at h
 .rename_i c;rw[aw c]
 .rename_i c1;rw[af c1];split at h
  .rename_i c;rw[aw c]
  .rename_i c2;rw[af c2];split at h
   .rename_i c;rw[aw c]
   .rename_i c3;rw[af c3];split at h
    .rename_i c;rw[aw c]
    .split at h<;>cases h
def yM(H:gA)(P:iM)(frame:gw):(gA×iM)×Option Nat:=match lQ frame with
 | .inl (_,body)=>qh H P body
 | .inr _=>((H,P),none)
theorem Ny(H:gA)(P:iM)(frame:gw):zG H P frame (yM H P frame)=mn H P frame:=by
 rw[Jp];unfold zG Fg iy.taken yM;split
 .rfl
 .cases o:lQ frame with
  | inr f=>rfl
  | inl y=>
   obtain⟨k,body⟩:=y;simp only;by_cases d:k=1
   .rw[aw d,aw d];exact Ip H P body
   .rw[af d,af d];by_cases i:k=2
    .rw[aw i,aw i];by_cases b:body=[]
     .rw[aw b,aw b,aw b];rfl
     .rw[af b,af b,af b];rfl
    .rw[af i,af i];by_cases l:k=3
     .rw[aw l,aw l,MC];have hq:=FM P.a body;generalize P.a.jJ body=q at hq;obtain⟨a1,r⟩:=q;cases r with
      | none=>rfl
      | some j=>obtain rfl:a1=P.a:=hq j rfl;rfl
     .rw[af l,af l];by_cases m:k=4
      .rw[aw m,aw m];exact Ji H P body
      .rw[af m,af m];rfl
theorem Jh(H:gA)(P:iM)(body:gw)(d:P.a.mN)(k:Nat)(h:(qh H P body).2=N k):k<256/\(qh H P body).1.2.a.V<18446744073709551616:=by
 have i:=d.v
 have arr:∀(P':iM) tv bytes k,P'.a.V=P.a.V->(nY H P' tv bytes).2=N k->k<256/\(nY H P' tv bytes).1.2.a.V<18446744073709551616:=by
  intro P' tv bytes k j h;unfold nY at h⊢;cases b:kJ bytes with
  | inr f=>obtain⟨f1,f2⟩:=f;rw[b]at h;cases h;have:=zf b;exact⟨by omega,by show P'.a.V<_;omega⟩
  | inl y=>
   obtain⟨v,T⟩:=y;rw[b]at h;simp only at h⊢;split at h
   .rename_i c;rw[aw c];cases h;exact⟨by omega,by show P'.a.V<_;omega⟩
   .split at h<;>cases h
 unfold qh at h⊢;split at h
 .rename_i c;rw[aw c];cases h;exact⟨by omega,by show P.a.V<_;omega⟩
 .rename_i c1;rw[af c1];split at h
  .rename_i c;rw[aw c];cases h;exact⟨by omega,by show P.a.V<_;omega⟩
  .rename_i c2;rw[af c2];cases hc:P.a.me with
   | none=>rw[hc]at h;cases h
   | some y=>
    obtain⟨tv,of,got⟩:=y;rw[hc]at h;simp only at h⊢;split at h
    .cases h
    .rename_i c3;rw[af c3];split at h
     .cases h
     .rename_i c4;rw[af c4];exact arr _ _ _ _ rfl h
theorem l5.Oq{a:Nat}(ha:l5 w b d a h P x)(i:P.a.me=J):x.cp=Q5 J:=by have:=ha.me;rw[i]at this;exact this
theorem l5.MH{a:Nat}{tv of:Nat}{got:List gw}(ha:l5 w d i a h P x)(j:P.a.me=N (tv,of,got)):∃b bv,x.cp=Q5 (N ⟨b,0,J⟩)/\d b/\w.heap[b]?=N (Q1 #[I Re (tv:Nat),I Y (of:Nat),I Y (O got:Nat),bv] 257 (0,0))/\gS w 0 1 bv (O got.flatten) (l6 got.flatten)/\gQ w bv 5/\∀k,Rl bv=N k->d k:=by have:=ha.me;rw[j]at this;exact this
theorem j4.trans{a:Nat}(j:∀k,b k->M k\/G (Q w)<=k)(d:gR M w w1)(l:j4 w1 b a h R e w'):j4 w M a h R e w':=by
 obtain⟨m,i⟩:=l;refine⟨nS.trans j d m,?_⟩;obtain⟨R,r⟩:=R;cases r with
 | none=>exact i
 | some k=>obtain⟨ev,p,o,g,q,s,u⟩:=i;exact⟨ev,p,o,g,q,au d.size s,u⟩
theorem l5.Nx{a o:Nat}{u:Nat×Nat}(ha:l5 w b d a h P x)(R:w.heap[o]?=N (Q1 C 257 u))(S:gQ w q 5)(U:b o)(V:∀k,Rl q=N k->b k)(l:gR (fun k=>k=o\/Rl q=N k) w w')(y:∀k,b k->G' k)(M:∀k,G' k->k<G (Q w')/\¬d k)(hc:Ao w' G' x.cp m):l5 w' G' d a h {P with a:={P.a with me:=m}} x:=by
 have F:∀k,(k=o\/Rl q=N k)->b k/\∃C u,w.heap[k]?=N (Q1 C 257 u)\/w.heap[k]?=N (Q1 C 5 u):=fun k hk=>by
  rcases hk with rfl|hk
  .exact⟨U,C,u,.inl R⟩
  .obtain⟨B,j,X⟩:=S k hk;exact⟨V k hk,B,j,.inr X⟩
 have D:∀k B T j,w.heap[k]?=N (Q1 B T j)->T≠257->T≠5->¬(k=o\/Rl q=N k):=fun k B T j hk n1 n2 Z=>by
  obtain⟨-,W,f2,i|i⟩:=F k Z
  .exact kK hk i n1 rfl
  .exact kK hk i n2 rfl
 obtain⟨s,r,vals,h1,-⟩:=ha.out;have E:=ha.iF;unfold jl at E;refine⟨l.at (D a _ _ _ ha.row (by decide) (by decide)) ha.row,ha.jh.iI (l.block _ ha.jh.lt fun e=>?_),l.at (D _ _ _ _ E (by decide) (by decide)) E,ha.out.frame l (fun e=>?_) fun k hk e=>ha.sep k (F k e).1 hk,(ha.flt.frame l fun k B f' _ hk=>?_).mono y,hc,⟨y _ ha.ru.1,y _ ha.ru.2.1,y _ ha.ru.2.2.1,y _ ha.ru.2.2.2⟩,fun k hk=>(M k hk).1,fun k hk=>ae (ha.olt k hk) l.size,fun k hk=>(M k hk).2⟩
 .obtain⟨-,W,f2,i|i⟩:=F _ e
  .exact ha.jh.mZ i rfl
  .exact ha.jh.mZ i rfl
 .obtain⟨-,W,f2,i|i⟩:=F _ e
  .exact rb h1 i rfl
  .exact rb h1 i rfl
 .rcases hk with hk|hk<;>exact D k _ _ _ hk (by decide) (by decide)
theorem jL.Nx{a o:Nat}{y:Nat×Nat}(hm:jL w F b d a h H P x)(r:w.heap[o]?=N (Q1 C 257 y))(s:gQ w q 5)(j:b o)(l:∀k,Rl q=N k->b k)(u:gR (fun k=>k=o\/Rl q=N k) w w')(B:∀k,b k->G' k)(i:∀k,G' k->k<G (Q w')/\¬d k/\¬F k)(hc:Ao w' G' x.cp m):jL w' F G' d a h H {P with a:={P.a with me:=m}} x:=
 ⟨hm.kQ.ext u fun k hk e=>hm.fg k hk (e.elim (fun e=>e▸j) (l k)),hm.ag.Nx r s j l u B (fun k hk=>⟨(i k hk).1,(i k hk).2.1⟩) hc,fun k hk D=>(i k D).2.2 hk,hm.fo⟩
theorem jL.mT{a:Nat}(hm:jL w F b d a h H P x)(i:gR (fun j=>j=a) w w')(l:w'.heap[a]?=N (Q1 (AV.cells {x with cp:=Q5 J} P.a.V h) 174 (0,0))):jL w' F b d a h H {P with a:={P.a with me:=J}} {x with cp:=Q5 J}:=
 ⟨hm.kQ.ext i fun k hk e=>hm.fg k hk (e▸hm.ag.ru.1),hm.ag.oK i l rfl rfl rfl rfl rfl rfl (fun _k=>id) (fun k hk=>⟨ae (hm.ag.glt k hk) i.size,hm.ag.sep k hk⟩) (hm.ag.Ah i) rfl,hm.fg,hm.fo⟩
theorem gZ.ext{S:Nat->Prop}(h:gZ w)(b:gR S w w')(d:∀k,S k->2<=k):gZ w':=h.iI b.size (b.block _ (gK h.c0) fun e=>absurd (d _ e) (by decide))
theorem IE(got:List gw)(h:∀s∈got,O s<=64)(hl:O got<=100):O got.flatten<=100000:=by
 have key:∀l:List gw,(∀s∈l,O s<=64)->O l.flatten<=64*O l:=by
  intro l
  induction l with
  | nil=>intro _;simp
  | cons s l ih=>intro h;have h1:=ih fun t b=>h t (by simp[b]);have d:=h s (by simp);rw[List.flatten_cons,ab,ao];omega
 have:=key got h;omega
theorem FE(n B a h base:Nat)(l:List Int)(F b d M:Nat->Prop)(H:gA)(P:iM)(x:AV)(bv:Q4)(body:gw)(w:Q0)(hm:jL w F b d a h H P x)(hM:∀k,F k\/b k\/d k->M k)(hu:qP n l H P)(bk:P.a.mN)(hn:32<=n/\n<=128)(bP:iW H B)(hB:B<=800000000)(cs:P.lg.gF<8999999999999999999)(hL:O H.dp.iF<=7500000000000)(hb:gS w base 1 bv (O body) (l6 body))(en:O body<=im)(bR:gZ w)(bS:∀k,M k->2<=k):
  Rg prog 114 #[Q5 (N ⟨a,0,J⟩),bv] w (j4 w M a h (qh H P body)):=by
 have ak:=hb.bytes;obtain⟨f0,fR,rfl,-,-⟩:=ak.gU;have al:=hm.ag.row;unfold AV.cells xi at al;have fB:=gr 6 al;have z6:=gD 6 al;have eo:=gm al;have er:im<=1000000000000000000:=by decide
 have d7:1000000<=im:=by decide
 have u:=gj hm;have U:=gj hM;have HU:=gj hu;have bX:=gj bk;have cv:=gj bP;have cB:=gj bR;have b1:=gj ak;obtain⟨R,hR⟩:∃R,R=qh H P body:=⟨_,rfl⟩;have HR:=gj hR;rw[<-hR];clear hm hM hu bk bP bR hb hR al ak;by_cases h1:O body<2
 .have c0:(O body:Int)-1<1:=by omega
  have q:gy (R=((H,P),N 1)):=gj (by rw[HR.o];unfold qh;rw[aw h1]);clear h1;go_enter func114,ntmps114;go_wp2_with fail;refine(lj 1 0 w).mono ?_;rintro e w3 ⟨rfl,rfl⟩;go_wp2;go_ret;unfold j4;rw[q.o];have a2:Q8 (G (Q w)) w (Ro w (Q1 #[I Y 1,I Y 0,.nilIface] 186)):=(Below.rf w).alloc gH _;exact⟨⟨M,⟨F,b,d,x,u.o.below a2,U.o⟩,fun k=>.inl,gR.gO a2⟩,_,0,rfl,mB.new w _ 1 0 gH⟩
 .have c0:¬(O body:Int)-1<1:=by omega
  by_cases h2:65<O body
  .have c1:(64:Int)<(O body:Int)-1:=by omega
   have q:gy (R=((H,P),N 2)):=gj (by rw[HR.o];unfold qh;rw[af h1,aw h2]);clear h1 h2;go_enter func114,ntmps114;go_wp2_with fail;refine(lj 2 0 w).mono ?_;rintro e w3 ⟨rfl,rfl⟩;go_wp2;go_ret;unfold j4;rw[q.o];have a2:Q8 (G (Q w)) w (Ro w (Q1 #[I Y 2,I Y 0,.nilIface] 186)):=(Below.rf w).alloc gH _;exact⟨⟨M,⟨F,b,d,x,u.o.below a2,U.o⟩,fun k=>.inl,gR.gO a2⟩,_,0,rfl,mB.new w _ 2 0 gH⟩
  .have c1:¬(64:Int)<(O body:Int)-1:=by omega
   cases hc:P.a.me with
   | none=>have a3:=u.o.ag.Oq hc;rw[a3]at fB;have q:gy (R=((H,{P with a:=P.a.ki}),J)):=gj (by rw[HR.o];unfold qh;rw[af h1,af h2,hc]);have hv:=bX.o.v;clear h1 h2 hc a3;go_enter func114,ntmps114;go_wp2_with fail;refine(np a h P x b d w u.o.ag (by omega)).mono ?_;rintro e w3 ⟨rfl,hp⟩;have HG:=gj (jL.th (M:=M) u.o (fun k hk=>.inl (U.o k hk)) (gR.refl M w) hp);clear hp;go_wp2;go_ret;unfold j4;rw[q.o];exact⟨HG.o,rfl⟩
   | some y=>
    obtain⟨tv,of,got⟩:=y;obtain⟨m,gv,a3,bt,V,a9,b2,b3⟩:=u.o.ag.MH hc;obtain⟨k1,k2,k3,k4⟩:=bX.o.me tv of got hc;obtain⟨X,hX⟩:∃X,X=got.flatten:=⟨_,rfl⟩;rw[<-hX]at a9;have b4:=gj hX;clear hX;obtain⟨ga,gc,rfl⟩:=a9.shape;rw[a3]at fB;have g0:=gr 0 V;have g1:=gr 1 V;have g2:=gr 2 V;have g3:=gr 3 V;have y2:=gD 2 V;have y3:=gD 3 V;have eb:=gm V;obtain⟨eD,eS,c2,c3,b5⟩:=b1.o.gU;cases c2;obtain⟨b0,i,rfl⟩:∃b0 i,body=b0::i:=by
     cases body with
     | nil=>simp at h1
     | cons b0 i=>exact⟨b0,i,rfl⟩
    obtain⟨tb,eT,rfl,t0⟩:=b5 0 (by simp);simp only[cG,cL]at t0;have q:gy (R=if b0.toNat≠O got then((H,{P with a:=P.a.lX}),J)else if(O got)+1<of then((H,{P with a:=iy.lX {P.a with me:=N (tv,of,got++[i])}}),J)else nY H {P with a:={P.a with me:=J}} tv (got++[i]).flatten):=gj (by rw[HR.o];unfold qh;rw[af h1,af h2,hc];rfl);have bx:=gj V;have c4:=gj hc;have c5:=gj a9;have ba:=gj b2;have bz:=gj b3;have ec:(b0::i).length=O i+1:=rfl;have c6:=b0.toNat_lt;clear V a9 b2 b3 h1 h2 HR b5;generalize (b0::i).length=bl at *
    obtain⟨bn,bA⟩:∃bn,bn=b0.toNat:=⟨_,rfl⟩;have eV:=gj bA;rw[<-bA]at t0 c6 q;clear bA;by_cases am:bn=O got
    .have q1:((bn:Int)==(O got:Int))=true:=by rw[am];exact eW _
     have c7:(bn:Int)=(O got:Int):=by omega
     rw[af (by omega)]at q;clear am;go_enter func114,ntmps114;go_upto_region 10 with fail;go_region
     all_goals
      go_upto_region 11 with fail;have eg:¬fR=1:=by omega
      have ej:(1:Int)<=(O i:Int)+1:=by omega
      have cm:=gj (gI.right (x:=[b0]) (y:=i) b1.o);have e0:O X<=100000:=by rw[b4.o];exact IE got k4 (by omega)
      clear c3
      go_region_law
       ((first
         | (refine o6 rfl (.tmp 43) (.tmp 45) 112 5 1 1 (I .u8 0) underlying112 wN rfl (by decide) rfl 0 (Q6 ga (O X) gc) (O X) (l6 X) rfl (by exact c5.o) (by exact ba.o) (O i) (l6 i) (by exact cm.o) (sw i) (by omega) (by omega) ux ?_;intro v7 w7 aa bB a0 b6;rw[<-oC]at aa;
             obtain⟨r,s,rfl⟩:=aa.shape;have ap:=gj (lR bB (ba.o.ne bx.o (by decide)) bx.o);have c8:Rn w7 ⟨m,3,J⟩=N (Q6 ga (O X) gc):=gr 3 ap.o;have c9:=gD 3 ap.o;have da:=gm ap.o)))
      all_goals
       have W:(Rp w7 ⟨m,3,J⟩ (Q6 r (O X+O i) s)).heap[m]?=N (Q1 #[I Re (tv:Nat),I Y (of:Nat),I Y (O got:Nat),Q6 r (O X+O i) s] 257 (0,0)):=QN _ _ 3 _ ap.o;have bD:gR (fun k=>k=m\/(Q6 ga (O X) gc).ownBlock=N k) w (Rp w7 ⟨m,3,J⟩ (Q6 r (O X+O i) s)):=((gR.gO ((Below.rf w).drew.drew)).trans (gR.mono (nJ (w:=w.drew.drew) bB) fun k e=>(.inr e:k=m\/(Q6 ga (O X) gc).ownBlock=N k))).setCell ⟨m,3,J⟩ _ (.inl (.inl rfl));have bE:gS (Rp w7 ⟨m,3,J⟩ (Q6 r (O X+O i) s)) 0 1 (Q6 r (O X+O i) s) (O X+O i) (l6 (X++i)):=aa.frame (by rw[QO];exact aq _) fun k e _=>Below.heap_setCell w7 ⟨m,3,J⟩ _ k fun S=>by obtain⟨C,fz,hC⟩:=a0 k e;exact kK hC ap.o (by decide) S
       have a6:gQ (Rp w7 ⟨m,3,J⟩ (Q6 r (O X+O i) s)) (Q6 r (O X+O i) s) 5:=a0.frame fun k e _=>Below.heap_setCell w7 ⟨m,3,J⟩ _ k fun S=>by obtain⟨C,fz,hC⟩:=a0 k e;exact kK hC ap.o (by decide) S
       have b8:∀k,(Q6 r (O X+O i) s).ownBlock=N k->(Q6 ga (O X) gc).ownBlock=N k\/G (Q w)<=k:=fun k e=>(b6 k e).imp id fun e=>by have S:k=G (Q w):=e;omega
       generalize Rp w7 ⟨m,3,J⟩ (Q6 r (O X+O i) s)=w8 at *
       have e1:=gj W;have dc:=gj bD;have dk:=gj bE;have dl:=gj a6;have b9:=gj b8;have e2:=gr 2 W;have e3:=gD 2 W;have g18:=gr 1 W;have e4:=gm W;have dn:IntKind.i64.wrap ((O got:Int)+1)=(O got:Int)+1:=by rw[show((O got:Int)+1)=((O got+1:Nat):Int) by omega];exact IntWalk.i64_in _ (by omega)
       have av:(Rp w8 ⟨m,2,J⟩ (I Y ((O got:Int)+1))).heap[m]?=N (Q1 #[I Re (tv:Nat),I Y (of:Nat),I Y ((O got:Int)+1),Q6 r (O X+O i) s] 257 (0,0)):=QN _ _ 2 _ W;have a7:=bD.setCell ⟨m,2,J⟩ (I Y ((O got:Int)+1)) (.inl (.inl rfl));have a8:=bE.frame (w':=Rp w8 ⟨m,2,J⟩ (I Y ((O got:Int)+1))) (by rw[QO];exact aq _) fun k e _=>Below.heap_setCell w8 ⟨m,2,J⟩ _ k fun S=>by obtain⟨C,fz,hC⟩:=a6 k e;exact kK hC W (by decide) S
       have ca:=a6.frame (w':=Rp w8 ⟨m,2,J⟩ (I Y ((O got:Int)+1))) fun k e _=>Below.heap_setCell w8 ⟨m,2,J⟩ _ k fun S=>by obtain⟨C,fz,hC⟩:=a6 k e;exact kK hC W (by decide) S
       clear W bD bE a6 b8 aa bB a0 b6 c8 c9 da;go_upto_region 13 with fail;generalize ds:Rp w8 ⟨m,2,J⟩ (I Y ((O got:Int)+1))=Z at *
       have e5:=gr 2 av;have g19:=gr 1 av;have e6:=gm av;have cb:=gj av;have bb:X++i=(got++[i]).flatten:=by rw[b4.o,List.flatten_append,List.flatten_cons,List.flatten_nil,cX]
       have bH:O X+O i=(got++[i]).flatten.length:=by rw[<-bb,ab]
       have cc:=u.o.ag.glt;have dv:=u.o.kQ.lt;have dT:=u.o.ag.olt;have aE:gy (jL Z F (fun k=>b k\/(G (Q w)<=k/\k<G (Q Z))) d a h H {P with a:={P.a with me:=N (tv,of,got++[i])}} x):=gj (by
        refine u.o.Nx bx.o ba.o bt bz.o a7 (fun k=>.inl) (fun k hk=>?_) ?_
        .rcases hk with hk|hk
         .have:=cc k hk;exact⟨ae this a7.size,u.o.ag.sep k hk,fun e=>u.o.fg k e hk⟩
         .exact⟨hk.2,fun e=>by have:=dT k e;omega,fun e=>by have:=dv k e;omega⟩
        .refine⟨m,Q6 r (O X+O i) s,a3,.inl bt,?_,?_,ca,fun k e=>?_⟩
         .rw[av];simp
         .rw[bb,bH]at a8;rw[bH];exact a8
         .rcases b9.o k e with S|S
          .exact .inl (bz.o k S)
          .exact .inr ⟨S,a8.iA k e⟩)
       have bI:=gj (show gR M w Z from a7.mono fun k e=>U.o k (.inr (.inl (e.elim (fun e=>e▸bt) (bz.o k)))));have cd:=gj a8;have d0:=gj bb;have e7:=gj a7.size;have ce:gy (∀k,F k\/(b k\/(G (Q w)<=k/\k<G (Q Z)))\/d k->M k\/G (Q w)<=k):=gj fun k hk=>by
        rcases hk with hk|(hk|hk)|hk
        .exact .inl (U.o k (.inl hk))
        .exact .inl (U.o k (.inr (.inl hk)))
        .exact .inr hk.1
        .exact .inl (U.o k (.inr (.inr hk)))
       clear av a7 a8 ca ds bb bH dk dl dc dn;by_cases bc:O got+1<of
       .have cn:(O got:Int)+1<(of:Int):=by omega
        rw[aw bc]at q;clear bc;go_region
        all_goals
         go_wp2_with fail;refine(rZ a h _ x _ d _ (aE.o.below ((Below.rf Z).drew)).ag tv of (got++[i]) rfl (by rw[ab,dw];omega)).mono ?_;rintro e w10 ⟨rfl,hp⟩;have HG:=gj (jL.th (M:=M) (aE.o.below ((Below.rf Z).drew)) ce.o (bI.o.trans (gR.gO ((Below.rf Z).drew))) hp);clear hp;go_wp2;go_ret;unfold j4;rw[q.o];exact⟨HG.o,rfl⟩
       .have cn:¬(O got:Int)+1<(of:Int):=by omega
        rw[af bc]at q;clear bc;have cg:=aE.o.below ((Below.rf Z).drew);have E:=cg.ag.row;have el:=gj E;unfold AV.cells xi at E;have e8:=gr 6 E;have f69:=gD 6 E;have em:=gm E;clear cg E;go_region
        all_goals
         have D:gR (fun j=>j=a) Z (Rp Z ⟨a,6,J⟩ (Q5 J)).drew:=((gR.refl (fun j=>j=a) Z).setCell ⟨a,6,J⟩ (Q5 J) (.inl rfl)).drew;have bL:=aE.o.mT D (QN _ _ 6 _ aE.o.ag.row);have am:m≠a:=fun e=>kK cb.o aE.o.ag.row (by decide) e;have bM:qP n l H {P with a:={P.a with me:=J}}:=⟨HU.o.tB,HU.o.dpS,HU.o.room,HU.o.jh,HU.o.l4⟩;have ak:gI (Rp Z ⟨a,6,J⟩ (Q5 J)).drew (Q6 r (O X+O i) s) (X++i):=(cd.o.frame D.size fun k e hk=>D.block k hk fun S=>by
          have S:k=a:=S;rcases b9.o k e with h'|h'
          .obtain⟨C,fz,hC⟩:=ba.o k h';exact kK hC u.o.ag.row (by decide) S
          .have:=cc a u.o.ag.ru.1;omega).bytes
         have d1:=gj (Ct n B a h m l F _ d (fun k=>M k\/G (Q w)<=k) H {P with a:={P.a with me:=J}} _ _ _ _ tv (X++i) _ bL ce.o bM hn cv.o hB cs hL (D.at am cb.o) ak (fun k e=>by have h':=ak;have:=cd.o.iA k e;exact ae this D.size) (by rw[ab];omega) ((cB.o.ext bI.o bS).ext D fun k e=>e▸bS a (U.o a (.inr (.inl u.o.ag.ru.1)))) k3);have cp:=gj (bI.o.trans (D.mono fun k e=>U.o k (.inr (.inl (e▸u.o.ag.ru.1)))));clear D bL bM ak;go_wp2_with fail;refine d1.o.mono ?_;rintro e e9 bN;obtain⟨ev,rfl⟩:=bN.ev;have d2:=gj (j4.trans (fun k hk=>hk) cp.o bN);clear bN;go_wp2;go_ret;rw[q.o,<-d0.o];exact d2.o
    .have q1:((bn:Int)==(O got:Int))=false:=ar.2 (by omega);have c7:¬(bn:Int)=(O got:Int):=by omega
     have q2:(O got:Int)<(of:Int):=by omega
     rw[aw am]at q;clear am;go_enter func114,ntmps114;go_upto_region 10 with fail;go_region
     all_goals
      go_wp2;go_region
      all_goals
       go_wp2_with fail;refine(rZ a h P x b d _ (u.o.below ((Below.rf w).drew.drew)).ag tv of got c4.o (by omega)).mono ?_;rintro e w3 ⟨rfl,hp⟩;have HG:=gj (jL.th (M:=M) (u.o.below ((Below.rf w).drew.drew)) (fun k hk=>.inl (U.o k hk)) (gR.gO ((Below.rf w).drew.drew)) hp);clear hp;go_wp2;go_ret;unfold j4;rw[q.o];exact⟨HG.o,rfl⟩
theorem En(n B a h:Nat)(l:List Int)(F b d M:Nat->Prop)(H:gA)(P:iM)(x:AV)(bv:Q4)(frame:gw)(w:Q0)(hm:jL w F b d a h H P x)(s:∀k,F k\/b k\/d k->M k)(u:P.a.l4=J->qP n l H P)(j:P.a.mN)(C:32<=n/\n<=128)(m:iW H B)(D:B<=800000000)(o:P.lg.gF<8999999999999999999)(E:O H.dp.iF<=7500000000000)(X:gI w bv frame)(R:O frame<=im)(q:gZ w)(S:kM w)(r:∀k,M k->2<=k):
  Rg prog 68 #[Q5 (N ⟨a,0,J⟩),bv] w fun e w'=>e=Ra (Rc #[])/\nS w M a h (mn H P frame).1 (mn H P frame).2 w':=by
 rw[<-Ny];refine Cv n B a h l F b d M H P x bv frame (yM H P frame) w hm s u C m D o E X R q S j.v r (fun body W v' Z i U ho=>?_) fun k hk=>?_
 .have hl:=xf i;rw[show yM H P frame=qh H P body by unfold yM;rw[i]];refine(FE n B a h (G (Q w)) l F b d M H P x v' body W (hm.below U) s (u Z) j C m D o E ho (by omega) (q.new U) r).mono ?_;intro e w' V;exact V
 .unfold yM at hk⊢;cases i:lQ frame with
  | inr f=>rw[i]at hk;cases hk
  | inl y=>rw[i]at hk;exact Jh H P y.2 j k hk
end Go.Proofs.YtkkfmkhbdoeglabGreatDoor
