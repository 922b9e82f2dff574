/- Lemmas of the proof. No condition. -/
import Derived.Test.YtkkfmkhbdoeglabGreatDoorV12
set_option maxHeartbeats 4000000
set_option maxRecDepth 100000
namespace Go.Proofs.YtkkfmkhbdoeglabGreatDoor
open Go renaming World->Q0,Value->Q4,Calls->Rg
open Go.Ending renaming returned->Ra
open Go.IntKind renaming i64->Y,u64->Re
open Go.Obj renaming cells->Q1
open Go.Value renaming int->I,pointer->Q5,slice->Q6,agg->Q9,iface->Rb,ownBlock->Rl
open Go.World renaming heap->Q,cell?->Rn,alloc->Ro,setCell->Rp
open List renaming length->O
open Option renaming none->J,some->N
open _root_.Array renaming size->G
open Go.Proofs.Tryz
open Go.RowKit Go.Shelf
variable{F S:Nat->Prop}{H:gA}{at' c cap gb h k tt:Nat}{b l:gw}{g:jP}{gG:List gw}{w w':Q0}
theorem AX:∀(S:List E),(ma S).length=jw S
 | []=>rfl
 | x::S=>by have e:ma (x::S)=mu x++ma S:=rfl;have b:jw (x::S)=1+O x.1.2+O x.2+jw S:=rfl;rw[e,b,ab,AX S];unfold mu;simp;omega
theorem rz(v:Nat)(S:List E):(kh v S).length=10+jw S:=by unfold kh;rw[ab,ab,iB,AX];rfl
theorem kc.iN{w1:Q0}(b:Below (G (Q w)) w w1)(d:kc w1 F S h H w'):kc w F S h H w':=by obtain⟨F',h1,i,j⟩:=d;exact⟨F',h1,fun k hk=>(i k hk).imp id (fun e=>au b.size e),(gR.gO b).trans j⟩
theorem kc.Fb{lg:Nat}(d:kc w F S h H w')(j:S lg)(hF:¬F lg)(o:lg<G (Q w))(i:Nat)(v:Q4):kc w F S h H (Rp w' ⟨lg,i,J⟩ v):=by
 obtain⟨F',h1,b,l⟩:=d;refine⟨F',h1.frame (by rw[QO];exact aq _) fun k hk=>Below.heap_setCell w' ⟨lg,i,J⟩ v k fun e=>?_,b,l.setCell _ _ (.inl (.inr j))⟩;have m:k=lg:=e;rcases b k hk with h|h
 .exact hF (m▸h)
 .omega
theorem zr(lg h:Nat)(F:Nat->Prop)(H:gA)(g:jP)(B q off r v:Nat)(T:List E)(w:Q0)(hl:jl w lg h g)(U:iU w F h H)(M:iW H B)(hB:B<=900000000)(V:¬F lg)(he:jt w q off r T)(bI:g.iC<2)(bL:jw T<=16*(O H.gG-8))(hT:O T<65536)(hv:v<18446744073709551616)(a8:∀x∈T,0<=x.1.1/\x.1.1<256/\O x.1.2<=100/\O x.2<=100)(a9:g.gF<9000000000000000000):
  Rg prog 190 #[Q5 (N ⟨lg,0,J⟩),I Re (v:Nat),Q5 (N ⟨q,off,J⟩)] w fun e w'=>∃r,e=Ra r/\Dd w w' r (iz H g v T).2.2/\jl w' lg h (iz H g v T).2.1/\kc w F (fun k=>k=lg) h (iz H g v T).1 w'/\iW (iz H g v T).1 (B+128):=by
 have hn:=M.n;have aE:=mg hn.1 hn.2;have ba:iw (kh v T).length<=ik (O H.gG):=qG (by rw[rz];omega);obtain⟨pl,X⟩:∃pl,pl=ik (O H.gG):=⟨_,rfl⟩;have a0:(1-g.iC)*ik (O H.gG)+iw (kh v T).length<=O H.gG:=by rcases(show g.iC=0\/g.iC=1 by omega)with e|e<;>rw[e]<;>omega
 have a1:=fun(dv:Q4) (W:Q0) (hW:Below (G (Q w)) w W) (bb:gI W dv (kh v T)) (bc:∀k,Rl dv=N k->¬F k/\k≠lg)=>gj (tZ lg h F H g ((1-g.iC)*ik (O H.gG)) B dv (kh v T) W (gC hW (gm hl) hl) (U.below hW) M hB V bb bc a0 a9);have bi:=gj (sj h F H w U);have bM:=rn h;have bN:=o4 h;have a2:=fun(W:Q0) (hW:Below (G (Q w)) w W)=>gj (NV q off r v T W (he.below hW) hT hv a8);have HH:=gj U;have HL:=gj hl;have bk:=gj U.lt;have bO:=gj M;have j:=hl;unfold jl at j;have c0:Rn w ⟨lg,0,J⟩=N (Rb 217 (Q9 #[Q5 (N ⟨h,0,J⟩)])):=gr 0 j;have c2:Rn w ⟨lg,2,J⟩=N (I Y (g.iC:Int)):=gr 2 j;have Z:=gm j;have bl:=gj aE;have a3:=gj X;have s:(1:Int)-(g.iC:Int)=((1-g.iC:Nat):Int):=by omega
 have bn:=gj s;obtain⟨A,hA⟩:∃A,A=(1-g.iC)*ik (O H.gG):=⟨_,rfl⟩;have a4:wrap64 ((1-(g.iC:Int))*(pl:Int))=(A:Int):=by rw[s,<-Int.natCast_mul,hA,<-X];have hm:(1-g.iC)*pl<=1*pl:=cQ _ (by omega);generalize (1-g.iC)*pl=m at hm⊢;exact IntWalk.wrap64_in (m:Int) (by omega)
 have HA:=gj hA;have br:=gj a4;clear hA a4;have bz:pl<=37:=by omega
 clear hl j U M ba a0 X s aE;go_enter func190,ntmps190;go_wp2_with fail;refine bi.o.mono ?_;rintro e w1 ⟨rfl,aa⟩;have R:=gj aa;have d2:=(aa.cell (p:=⟨lg,2,J⟩) Z).trans c2;clear c0 c2 aa;go_wp2_with fail;refine(DP (O H.gG) w1 hn.1 hn.2).mono ?_;rintro e bs ⟨rfl,rfl⟩;rw[<-a3.o];go_wp2_with fail;refine(a2 bs R.o).out.mono ?_;rintro e w2 ⟨bv,rfl,i,a5⟩;rw[br.o];have u:=R.o.trans (a5.mono R.o.size);have ag:=a1 bv w2 u i.bytes (fun k e=>by have h1:=i.ie k e;have h2:=R.o.size;exact⟨fun hF=>by have:=bk.o k hF;omega,by omega⟩);have y:=gj u;obtain⟨bP,bR,rfl⟩:=i.shape;clear a1 a2 u i a5;go_wp2_with fail;rw[<-HA.o]at ag;refine ag.out.mono ?_;rintro e w3 ⟨rv,rfl,l,d,ak,D⟩;have S:gy (iz H g v T=IS g (O H.gG) (gT H g A (kh v T))):=gj (by unfold iz;rw[HA.o]);have bS:iw (kh v T).length<=128:=by have:=bl.o;have h2:iw (kh v T).length<=ik (O H.gG):=qG (by rw[rz];omega);omega
 obtain⟨b,hQ⟩:∃b,b=gT H g A (kh v T):=⟨_,rfl⟩;rw[<-hQ]at l ak D S;obtain⟨H1,rf⟩:=b;have a6:=gj d;have al:=gj ak;have am:=gj (D.mono (C:=B+128) (by omega));clear ak D hQ ag;simp only at l al am S;cases rf with
 | some f=>have bx:=gj (show oF w2 w3 rv f from l);obtain⟨eb,rfl,-,-⟩:=l;clear d;go_wp2;go_ret;refine⟨_,rfl,?_⟩;rw[S.o];exact⟨bx.o.mono y.o.size,a6.o,kc.iN y.o al.o,am.o⟩
 | none=>obtain rfl:rv=.nilIface:=l;unfold jl at d;have c2:Rn w3 ⟨lg,2,J⟩=N (I Y (g.iC:Int)):=gr 2 d;have c3:Rn w3 ⟨lg,3,J⟩=N (I Y (g.next:Int)):=gr 3 d;have f2:=gD 2 d;have f3:=gD 3 d;have bH:=gm d;clear d;go_wp2;go_ret;refine⟨_,rfl,?_⟩;rw[S.o,bn.o,show(2:Int)*(pl:Int)=((2*ik (O H.gG):Nat):Int) by rw[<-a3.o];omega];refine⟨rfl,QN _ _ 3 _ (QN _ _ 2 _ a6.o),((kc.iN y.o al.o).Fb rfl V Z _ _).Fb rfl V Z _ _,am.o⟩
theorem Mk(H:gA)(n:Nat)(s:gw):(H.write n s).1.gG.length=O H.gG:=by
 unfold gA.write;split
 .rfl
 .exact cA
theorem Lb(H:gA):O H.jY.1.gG=O H.gG:=by
 unfold gA.jY;split
 .rfl
 .split<;>rfl
theorem Cn:∀(l:List gw) (H:gA) (n:Nat),(jc l H n).1.gG.length=O H.gG
 | [],_,_=>rfl
 | s::l,H,n=>by
  unfold jc;have h1:=Mk H n s;generalize H.write n s=q at h1⊢;obtain⟨b,d⟩:=q;cases d with
  | some f=>exact h1
  | none=>exact(Cn l b (n+1)).trans h1
theorem EP(H:gA)(g:jP)(at':Nat)(data:gw):(gT H g at' data).1.gG.length=O H.gG:=by
 unfold gT;have h1:=Cn (iH (g.gF+1) data) H at';generalize jc (iH (g.gF+1) data) H at'=q at h1⊢;obtain⟨b,d⟩:=q;cases d with
 | some f=>exact h1
 | none=>exact(Lb b).trans h1
theorem Gx{v:Nat}{T:List E}(h:(iz H g v T).2.2=J):(iz H g v T).2.1=⟨g.gF+1,1-g.iC,2*ik (O H.gG)⟩/\(iz H g v T).1.gG.length=O H.gG:=by
 unfold iz at h⊢;have h1:=EP H g ((1-g.iC)*ik (O H.gG)) (kh v T);generalize gT H g ((1-g.iC)*ik (O H.gG)) (kh v T)=q at h h1⊢;obtain⟨d,b⟩:=q;cases b with
 | some f=>cases h
 | none=>exact⟨rfl,h1⟩
theorem I2(lg h:Nat)(F:Nat->Prop)(H:gA)(g:jP)(B q off r v:Nat)(T:List E)(dv:Q4)(b:gw)(w:Q0)(hl:jl w lg h g)(hh:iU w F h H)(a0:iW H B)(hB:B<=800000000)(ag:¬F lg)(he:jt w q off r T)(_hq:¬F q/\q≠lg)(_hr:¬F r/\r≠lg)(bS:g.iC<2)(bX:jw T<=16*(O H.gG-8))(hT:O T<65536)(hv:v<18446744073709551616)(b0:∀x∈T,0<=x.1.1/\x.1.1<256/\O x.1.2<=100/\O x.2<=100)(co:g.gF<8999999999999999999)(a4:gI w dv b)(bn:∀k,Rl dv=N k->¬F k/\k≠lg/\k<G (Q w))(cp:O b<=700)(cq:g.next<=O H.gG):
  Rg prog 155 #[Q5 (N ⟨lg,0,J⟩),dv,I Re (v:Nat),Q5 (N ⟨q,off,J⟩)] w fun e w'=>∃r,e=Ra r/\Dd w w' r (jH H g b v T).2.2/\jl w' lg h (jH H g b v T).2.1/\kc w F (fun k=>k=lg) h (jH H g b v T).1 w'/\iW (jH H g b v T).1 (B+256):=by
 have hn:=a0.n;have cr:=mg hn.1 hn.2;obtain⟨P,hP⟩:∃P,P=iw (O b):=⟨_,rfl⟩;have bo:((O b:Int)+53-1) / 53=(P:Int):=by rw[hP];unfold iw;omega
 have cl:P<=14:=by rw[hP];unfold iw;omega
 have b2:=gj bo;have M:=gj hP;have b3:=gj (sj h F H);have a5:=gj (fun(W:Q0) (hW:Below (G (Q w)) w W)=>zr lg h F H g B q off r v T W (gC hW (gm hl) hl) (hh.below hW) a0 (by omega) ag (he.below hW) bS bX hT hv b0 (by omega));have cs:=rn h;have ct:=o4 h;obtain⟨da,dc,rfl,cu,-⟩:=a4.gU;have ak:=hl;unfold jl at ak;have c0:Rn w ⟨lg,0,J⟩=N (Rb 217 (Q9 #[Q5 (N ⟨h,0,J⟩)])):=gr 0 ak;have c3:Rn w ⟨lg,3,J⟩=N (I Y (g.next:Int)):=gr 3 ak;have a1:=gm ak;have HH:=gj hh;have HL:=gj hl;have cv:=gj hh.lt;have b5:=gj a0;have br:=gj a4;have U:=gj bn;clear hl ak hh a0 a4 bn hP bo;go_enter func155,ntmps155;go_wp2;rw[b2.o]
 go_region_held3 (fun w'=>Rn w' ⟨lg,0,J⟩=N (Rb 217 (Q9 #[Q5 (N ⟨h,0,J⟩)]))/\Rn w' ⟨lg,3,J⟩=N (I Y (g.next:Int)))
  (first|exact⟨c0,c3⟩|exact⟨(u.o.cell (p:=⟨lg,0,J⟩) a1).trans c0,(u.o.cell (p:=⟨lg,3,J⟩) a1).trans c3⟩)
  (first|(go_at_call 251;refine(b3.o _ (by first|exact HH.o|exact HH.o.frame gH (fun _ _=>rfl))).mono ?_;rintro e w1 ⟨rfl,a6⟩;have u:gy (Below (G (Q w)) w w1):=gj (by first|exact a6|exact(Below.rf w).drew.tn a6);clear a6))
 rw[show IntKind.i64.wrap ((g.next:Int)+(P:Int))=((g.next+P:Nat):Int) by rw[<-Int.natCast_add];exact IntWalk.i64_in _ (by omega)];obtain⟨d,hY⟩:∃d,d=g.next+P:=⟨_,rfl⟩;rw[<-hY];have HY:=gj hY;by_cases bs:O H.gG<d
 .have bB:(O H.gG:Int)<(d:Int):=by omega
  clear hY c0 c3;go_wp2_with fail;refine(a5.o w1 u.o).mono ?_;rintro e Z ⟨rv,rfl,l,j,y,m⟩;obtain⟨i,S⟩:∃i,i=iz H g v T:=⟨_,rfl⟩;have aa:gy (jH H g b v T=Ns b i):=gj (by unfold jH;rw[aw (by rw[<-M.o,<-HY.o];exact bs),<-S]);have bt:gy (i.2.2=J->i.2.1=⟨g.gF+1,1-g.iC,2*ik (O H.gG)⟩/\O i.1.gG=O H.gG):=gj (by rw[S];exact Gx);rw[<-S]at l j y m;obtain⟨H1,g1,rf⟩:=i;have R:=gj j;have C:=gj y;have D:=gj m;clear y m S a5;simp only at l C D aa bt R;cases rf with
  | some f=>have am:=gj (show oF w1 Z rv f from l);obtain⟨eb,rfl,-,-⟩:=l;clear j;go_wp2;go_ret;refine⟨_,rfl,?_⟩;rw[aa.o];exact⟨am.o.mono u.o.size,R.o,kc.iN u.o C.o,D.o.mono (by omega)⟩
  | none=>
  obtain rfl:rv=.nilIface:=l;have V:gy (jH H g b v T=jk H1 g1 b):=gj aa.o;obtain⟨F1,bv,bw,bx⟩:=kc.iN u.o C.o;have b9:=gj bv;have a2:=gj bw;have a3:=gj bx;have ca:=D;obtain⟨a7,cb⟩:=bt.o rfl;have a8:g1.next=2*ik (O H.gG):=by rw[a7]
  have bE:g1.gF=g.gF+1:=by rw[a7]
  have a9:¬F1 lg:=fun e=>(a2.o lg e).elim ag (fun h=>by omega);have bH:=gj a9;have bI:gy (gI Z (Q6 da (O b) dc) b):=gj (gE.frame br.o fun k e hk=>a3.o.block k hk fun e'=>e'.elim (U.o k e).1 (U.o k e).2.1);have bL:gy (∀k,(Q6 da (O b) dc).ownBlock=N k->¬F1 k/\k≠lg):=gj fun k e=>⟨fun hF=>(a2.o k hF).elim (U.o k e).1 (fun h=>by have:=(U.o k e).2.2;omega),(U.o k e).2.1⟩;have cc:gy (g1.next+iw (O b)<=O H1.gG):=gj (by rw[cb,a8,<-M.o];omega);have bM:gy (g1.gF<9000000000000000000):=gj (by omega);have cd:g1.next+P<=1000:=by omega
  have ap:=R.o;have s:=ap;clear bv bw bx a7 bE a9 a8 j;unfold jl at s;have e0:Rn Z ⟨lg,0,J⟩=N (Rb 217 (Q9 #[Q5 (N ⟨h,0,J⟩)])):=gr 0 s;have e3:Rn Z ⟨lg,3,J⟩=N (I Y (g1.next:Int)):=gr 3 s;have bO:=gm s;have av:=gj (tZ lg h F1 H1 g1 g1.next (B+128) (Q6 da (O b) dc) b Z ap b9.o ca.out (by omega) bH.o bI.o bL.o cc.o bM.o);clear s;go_wp2_with fail;refine av.o.mono ?_;rintro e w5 ⟨rv,rfl,l,j,y,m⟩;obtain⟨i,S⟩:∃i,i=gT H1 g1 g1.next b:=⟨_,rfl⟩;have X:gy (jk H1 g1 b=uW g1 b i):=gj (by unfold jk;rw[<-S]);rw[<-S]at l y m;obtain⟨H5,rf⟩:=i;have R:=gj j;have C:=gj y;have D:=gj m;clear y m S av e0 e3;simp only at l C D X;cases rf with
  | some f=>have am:=gj (show oF Z w5 rv f from l);obtain⟨eb,rfl,-,-⟩:=l;clear j;go_wp2;go_ret;refine⟨_,rfl,?_⟩;rw[V.o,X.o];exact⟨am.o.mono a3.o.size,R.o,kc.trans a2.o a3.o C.o,D.o.mono (by rw[<-M.o];omega)⟩
  | none=>
   obtain rfl:rv=.nilIface:=l;unfold jl at j;have d3:Rn w5 ⟨lg,3,J⟩=N (I Y (g1.next:Int)):=gr 3 j;have f3:=gD 3 j;have bP:=gm j;have aE:((g1.next:Int)+(P:Int))=((g1.next+iw (O b):Nat):Int):=by rw[M.o];omega
   have ba:=gj aE;have bR:g1.next<=1000:=by omega
   clear j aE;go_wp2;go_ret;refine⟨_,rfl,?_⟩;rw[V.o,X.o,ba.o];exact⟨rfl,QN _ _ 3 _ R.o,(kc.trans a2.o a3.o C.o).Fb rfl ag a1 _ _,D.o.mono (by rw[<-M.o];omega)⟩
 .have bB:¬(O H.gG:Int)<(d:Int):=by omega
  have V:gy (jH H g b v T=jk H g b):=gj (by unfold jH;rw[af (by rw[<-M.o,<-HY.o];exact bs)]);have ap:jl w1 lg h g:=gC u.o (gm HL.o) HL.o;have s:=ap;have ce:g.next+P<=O H.gG:=by omega
  have cd:g.next+P<=1000:=by omega
  clear hY c0 c3 a5;unfold jl at s;have e0:Rn w1 ⟨lg,0,J⟩=N (Rb 217 (Q9 #[Q5 (N ⟨h,0,J⟩)])):=gr 0 s;have e3:Rn w1 ⟨lg,3,J⟩=N (I Y (g.next:Int)):=gr 3 s;have bO:=gm s;have av:=gj (tZ lg h F H g g.next (B) (Q6 da (O b) dc) b w1 ap (HH.o.below u.o) b5.o (by omega) ag (br.o.below u.o) (fun k e=>⟨(U.o k e).1,(U.o k e).2.1⟩) (by rw[<-M.o];exact ce) (by omega));clear s;go_wp2_with fail;refine av.o.mono ?_;rintro e w5 ⟨rv,rfl,l,j,y,m⟩;obtain⟨i,S⟩:∃i,i=gT H g g.next b:=⟨_,rfl⟩;have X:gy (jk H g b=uW g b i):=gj (by unfold jk;rw[<-S]);rw[<-S]at l y m;obtain⟨H5,rf⟩:=i;have R:=gj j;have C:=gj y;have D:=gj m;clear y m S av e0 e3;simp only at l C D X;cases rf with
  | some f=>have am:=gj (show oF w1 w5 rv f from l);obtain⟨eb,rfl,-,-⟩:=l;clear j;go_wp2;go_ret;refine⟨_,rfl,?_⟩;rw[V.o,X.o];exact⟨am.o.mono u.o.size,R.o,kc.iN u.o C.o,D.o.mono (by rw[<-M.o];omega)⟩
  | none=>
   obtain rfl:rv=.nilIface:=l;unfold jl at j;have d3:Rn w5 ⟨lg,3,J⟩=N (I Y (g.next:Int)):=gr 3 j;have f3:=gD 3 j;have bP:=gm j;have aE:((g.next:Int)+(P:Int))=((g.next+iw (O b):Nat):Int):=by rw[M.o];omega
   have ba:=gj aE;have bR:g.next<=1000:=by omega
   clear j aE;go_wp2;go_ret;refine⟨_,rfl,?_⟩;rw[V.o,X.o,ba.o];exact⟨rfl,QN _ _ 3 _ R.o,(kc.iN u.o C.o).Fb rfl ag a1 _ _,D.o.mono (by rw[<-M.o];omega)⟩
def gA.oN(H:gA)(k:Nat):gA:={H with fail:=if H.fail<0 then H.fail else H.fail-k}
theorem Jo(H:gA):H.oN 0=H:=by
 unfold gA.oN;have:(if H.fail<0 then H.fail else H.fail-(0:Nat))=H.fail:=by split<;>omega
 rw[this]
theorem Jn(hk:¬(0<=H.fail/\H.fail<(k:Int))):((H.oN k).jM=true↔H.fail=k)/\(H.fail≠k->(H.oN k).jy=H.oN (k+1))/\(H.fail=k->(H.oN k).jy={H with fail:=-1}):=by
 have key:∀a b:Int,a=b->({H with fail:=a} : gA)={H with fail:=b}:=fun a b e=>by rw[e]
 refine⟨?_,fun h=>key _ _ ?_,fun h=>key _ _ ?_⟩
 .unfold gA.oN gA.jM;simp only[dI];split<;>omega
 .unfold gA.oN;simp only;split<;>(try split)<;>omega
 .unfold gA.oN;simp only;split<;>(try split)<;>omega
def na(g:jP)(gG:List gw)(k:Nat):Nat:=max g.gF (jn (gG.take k))
theorem CJ(l:List gw)(b:gw):jn (l++[b])=max (jn l) (gN b).gF:=by unfold jn;rw[dZ];rfl
theorem He(h:gG[k]?=N b):na g gG (k+1)=max (na g gG k) (gN b).gF:=by unfold na;rw[qo _ _ h,CJ,Nat.max_assoc]
def pO(gG:List gw)(k:Nat):List gw:=gG.take k++List.replicate (O gG-k) []
theorem ID(h:k<=O gG):(pO gG k).length=O gG:=by unfold pO;rw[ab,ax,bV];omega
theorem Ge(h:gG[k]?=N b):pO gG (k+1)=(pO gG k).set k b:=by have hk:=(aH.1 h).1;unfold pO;rw[qo _ _ h,List.set_append_right _ _ (by rw[ax];omega),ax,show k-min k (O gG)=0 by omega,show(O gG)-k=(O gG-(k+1))+1 by omega,List.replicate_succ,aG];simp
def Fz(w:Q0)(F:Nat->Prop)(lg h:Nat)(H:gA)(g:jP)(b:Q4)(k:Nat)(wr:Q0):Prop:=
 iU wr F h (H.oN k)/\iX wr (fun j=>G (Q w)<=j/\j<G (Q wr)) b (pO H.gG k)/\jl wr lg h {g with gF:=na g H.gG k}/\gR (fun j=>F j\/j=lg) w wr/\¬(0<=H.fail/\H.fail<(k:Int))
def Pp(w:Q0)(lg h:Nat)(H:gA)(g:jP)(e:Ending)(w':Q0):Option Nat->Prop
 | some f=>∃v,e=Ra (.tuple #[Q6 J 0 0,v])/\oF w w' v f
 | none=>∃v,e=Ra (.tuple #[v,.nilIface])/\iX w' (fun j=>G (Q w)<=j/\j<G (Q w')) v H.gG/\jl w' lg h {g with gF:=na g H.gG (O H.gG)}
theorem NC(w:Q0)(n:Nat)(m:n<=1000):iX (Ro w (Q1 (madeCells #[Q6 J 0 0] n) 112)) (fun j=>G (Q w)<=j/\j<G (Q w)+1) (Q6 (N ⟨G (Q w),0,J⟩) n n) (List.replicate n []):=by
 have o:(madeCells #[Q6 J 0 0] n).size=n:=by simp[madeCells]
 have h:=gS.new w (madeCells #[Q6 J 0 0] n) 112 0 0 0 1 n n ux gH (by have:maxLen=9223372036854775807:=rfl;omega) (by omega) (.inl (by omega));have e:(madeCells #[Q6 J 0 0] n).toList.take (n*1)=List.replicate n (Q6 J 0 0):=by rw[eM,Nat.mul_one,aW (by simp)]
 rw[e]at h;refine⟨List.replicate n (Q6 J 0 0),by rw[bV];exact h,fun k hk=>?_,fun k hk=>?_,fun i b l=>?_⟩
 .cases hk;exact⟨_,_,gB w _⟩
 .cases hk;exact⟨aq _,Nat.lt_succ_self _⟩
 .obtain⟨hl,d⟩:=aH.1 l;rw[List.getElem_replicate]at d;subst d;rw[bV]at hl;exact⟨_,by rw[List.getElem?_replicate,aw hl],gI.nil _ _ _,gQ.nil _ _,fun k e=>by simp[Value.ownBlock]at e⟩
theorem Bt(lg h:Nat)(F:Nat->Prop)(H:gA)(g:jP)(B:Nat)(w:Q0)(hl:jl w lg h g)(hh:iU w F h H)(a8:iW H B)(bE:¬F lg):
  Rg prog 197 #[Q5 (N ⟨lg,0,J⟩)] w fun e w'=>iU w' F h (ja H).1/\gR (fun j=>F j\/j=lg) w w'/\Pp w lg h H g e w' (ja H).2:=by
 have hn:=a8.n;have a9:=gj (sj h F H w hh);have d2:=rn h;have d3:=o4 h;have d4:=Ls h;have d5:=ER h;have aE:=hl;unfold jl at aE;have c0:Rn w ⟨lg,0,J⟩=N (Rb 217 (Q9 #[Q5 (N ⟨h,0,J⟩)])):=gr 0 aE;have Z:=gm aE;have HH:=gj hh;have HL:=gj hl;have bH:=gj hh.lt;have bI:=gj a8;obtain⟨d,hN⟩:∃d,d=O H.gG:=⟨_,rfl⟩;have x:=gj hN;have d6:d<=128:=by omega
 have d7:∀w,(Instr.makeSlice 120 (I Y d) (I Y d)).run prog w=.ok (Q6 (N ⟨G (Q w),0,J⟩) d d) (Ro w (Q1 (madeCells #[Q6 J 0 0] d) 112)):=fun w=>
  run_make_row' 120 112 (Q6 J 0 0) 24 underlying120 (by kernel_rfl) rfl Y Y d (by omega) (by omega) w
 rw[<-hN]at a9;clear hl aE hh a8 hN;go_enter func197,ntmps197;go_wp2_with fail;refine a9.o.mono ?_;rintro e w1 ⟨rfl,ba⟩;have bL:=gj ba;have a0:=gj (NC w1 d (by omega));have bb:=ba.size;clear ba;go_wp2;obtain⟨w2,a1⟩:∃w2,w2=Ro w1 (Q1 (madeCells #[Q6 J 0 0] d) 112):=⟨_,rfl⟩;rw[<-a1]at a0⊢;have bc:gy (Below (G (Q w)) w w2):=gj (by rw[a1];exact bL.o.alloc bb _);have cl:G (Q w2)=G (Q w1)+1:=by rw[a1];simp
 obtain⟨q,bM⟩:∃q,q=G (Q w1):=⟨_,rfl⟩;rw[<-bM]at a0⊢bb cl;have cm:gy (Fz w F lg h H g (Q6 (N ⟨q,0,J⟩) d d) 0 w2):=gj (by
  refine⟨by rw[Jo];exact HH.o.below bc.o,?_,?_,(gR.gO bc.o),by omega⟩
  .have h0:pO H.gG 0=List.replicate d []:=by unfold pO;rw[x.o];simp
   rw[h0];exact a0.o.mono fun j l=>by omega
  .have h0:na g H.gG 0=g.gF:=by unfold na jn;simp
   rw[h0];exact gC bc.o (gm HL.o) HL.o)
 clear a1 bM c0 a9 bL a0;go_loopw [17] (fun i wr=>∃k:Nat,k<=d/\i=I Y (k:Int)/\Fz w F lg h H g (Q6 (N ⟨q,0,J⟩) d d) k wr) (fun i _=>d-(intOf i).toNat)
 case atStart=>exact⟨0,aJ _,rfl,cm.o⟩
 case round=>
  obtain⟨k,hk,rfl,hrel⟩:=hrel;obtain⟨r1,r2,r3,r4,r5⟩:=hrel;have bi:=gj r1;have bN:=gj r2;have bO:=gj r3;have aa:=gj r4;have a2:=gj r5;have a3:=r3;unfold jl at a3;have c0:Rn wr ⟨lg,0,J⟩=N (Rb 217 (Q9 #[Q5 (N ⟨h,0,J⟩)])):=gr 0 a3;have dl:=gm a3;clear r1 r2 r3 a3 r4 r5;by_cases Z:k<d
  .have g1:(k:Int)<d:=by omega
   obtain⟨q1,q2,q3⟩:=Jn a2.o;obtain⟨b,hb⟩:∃b,H.gG[k]?=N b:=⟨_,ah (by rw[<-x.o];exact Z)⟩;have bk:=gj hb;have bl:O b=64:=bI.o.s64 b (be hb);have bP:=gj q1;have cs:=gj q2;have ct:=gj q3;have cu:d<=1000:=by omega
   have bn:gy (k<(H.oN k).gG.length/\(H.oN k).gG.length<=1000):=gj (by show k<O H.gG/\O H.gG<=1000;rw[<-x.o];exact⟨Z,cu⟩);clear hb q1 q2 q3;cases ag:(H.oN k).jM with
   | true=>have r:H.fail=k:=bP.o.1 ag;have bo:gy (ja H=((H.oN k).jy,N (k+2))):=gj (by rw[ct.o r];unfold ja;rw[aw (by rw[r,<-x.o];omega),r];rfl);clear r;go_wp2_with fail;refine(Nw h F (H.oN k) k wr bi.o bn.o.1 bn.o.2 ag).mono ?_;rintro e w5 ⟨v,rfl,bR,ak,al⟩;have cv:=gj bR;have cB:=gj ak;have c1:=gj al;obtain⟨eD,rfl,-,-⟩:=bR;clear ak al;go_wp2;go_ret2;rw[bo.o];exact⟨cB.o,aa.o.trans (c1.o.mono fun j l=>.inl l),_,rfl,cv.o.mono aa.o.size⟩
   | false=>
    have r:H.fail≠k:=fun e=>by rw[bP.o.2 e]at ag;cases ag
    have bS:=gj r;have bX:-1<=(H.oN k).fail/\(H.oN k).fail<=9223372036854775807:=by have:=bI.o.fail;have h5:=a2.o;unfold gA.oN;simp only;split<;>omega
    clear r;go_wp2_with fail;refine(LD h F (H.oN k) k b wr bi.o bk.o bn.o.2 (by omega) ag bX).mono ?_;rintro e w5 ⟨v,rfl,b0,b1,b2,ak,al⟩;have br:=gj b0;have a4:=gj b1;have b3:=gj b2;have bs:=gj ak;have a5:=gj al;obtain⟨R,U,rfl,-,-⟩:=b0.gU;clear b1 b2 ak al bX c0;have b4:gy (jl w5 lg h {g with gF:=na g H.gG k}):=gj (bO.o.ext a5.o bE);have am:=b4.o;unfold jl at am;have d1:Rn w5 ⟨lg,1,J⟩=N (I Re (na g H.gG k:Nat)):=gr 1 am;have f1:=gD 1 am;have bt:=gm am;clear am;go_wp2;have y:gy (Below (G (Q w5)) w5 (Ro w5 (Q1 #[Q6 R (O b) U,I Y 0,I Y 0,Q5 J] 254))):=gj ((gJ w5).alloc gH _);have V:=gB w5 (Q1 #[Q6 R (O b) U,I Y 0,I Y 0,Q5 J] 254);have a6:gy (jd (Ro w5 (Q1 #[Q6 R (O b) U,I Y 0,I Y 0,Q5 J] 254)) (G (Q w5)) (G (Q w5)) ⟨b,0,0,J⟩):=gj ⟨aJ _,aq _,by unfold im;simp only;omega,aq _,_,J,V,br.o.below y.o,fun j e=>by obtain⟨C,fz,hC⟩:=a4.o j e;exact gm hC,rfl⟩;rw[bl]at V y a6;obtain⟨W,bw⟩:∃W,W=Ro w5 (Q1 #[Q6 R 64 U,I Y 0,I Y 0,Q5 J] 254):=⟨_,rfl⟩;rw[<-bw]at y a6 V⊢;have d8:G (Q W)=G (Q w5)+1:=by rw[bw];simp
    have ce:G (Q w)<=q:=bb;have e1:Rn W ⟨lg,1,J⟩=N (I Re (na g H.gG k:Nat)):=(y.o.cell (p:=⟨lg,1,J⟩) bt).trans d1;have e2:W.frozen? ⟨lg,1,J⟩=false:=(y.o.frozen (p:=⟨lg,1,J⟩) bt).trans f1;clear bw d1 f1 V;have c2:gy (j6 ((⟨b,0,0,J⟩:Cu).take 8).2=(gN b).gF):=gj (by rw[Cu.jV,af (by omega)];rfl);refine jI (n:=10) (S:=(fun w'=>Rn w' ⟨lg,1,J⟩=N (I Re (na g H.gG k:Nat)))) (by kernel_rfl) (by kernel_rfl) rfl (by first|exact e1|exact ap) ?_;intro dn;simp only[cJ,b7,bC,cO,aN,bp,bd,bf,bK,aQ,aV];refine lS [0,1,2,3,4,5] ?_
    repeat(refine jx (v:=?_) rfl (by kernel_rfl) (by assumption) (by rfl) (fun _ _ _ h=>h) ?_ ?_;rotate_left 1;(· intro w bx;(try dsimp only at bx);go_simp;(try with_reducible rfl));try simp only[Act.put,List.setIfInBounds_toArray,List.set_cons_zero,List.set_cons_succ])
    refine ka ?_;refine iT 6 (by kernel_rfl) rfl ?_;intro K' hK';go_simp;go_at_call 156;refine(qv (G (Q w5)) (G (Q w5)) ⟨b,0,0,J⟩ _ (by first|exact a6.o|exact a6.o.iI ((gJ W).drew)) (by show(G (Q w5))<=G (Q W);omega)).mono ?_;rintro e m ⟨rfl,cg,D⟩;have bz:gy (gR (fun j=>j=G (Q w5)) W m):=gj ⟨D.os,D.tape,D.output,D.size,fun j l c3=>D.block j l fun e=>c3 (by cases e;rfl)⟩;have ap:Rn m ⟨lg,1,J⟩=N (I Re (na g H.gG k:Nat)):=bz.o.cell (p:=⟨lg,1,J⟩) (by show lg≠G (Q w5);omega) e1;clear cg D;rw[c2.o];refine hK'.out _ _ ap ?_;clear hK' K';intro dp
    try simp only[az,aG,aK]
    refine iT 7 (by kernel_rfl) rfl ?_;intro K' hK';go_simp;refine hK'.out _ _ (by first|exact e1|exact ap) ?_;clear hK' K';intro ds
    try simp only[az,aG,aK]
    refine lS [8,9] ?_
    repeat(refine jx (v:=?_) rfl (by kernel_rfl) (by assumption) (by rfl) (fun _ _ _ h=>h) ?_ ?_;rotate_left 1;(· intro w bx;(try dsimp only at bx);go_simp;(try with_reducible rfl));try simp only[Act.put,List.setIfInBounds_toArray,List.set_cons_zero,List.set_cons_succ])
    refine ka ?_;refine wpAnyH_done (by kernel_rfl) ?_ _;show Oper.wp _ _ _ _ _ _;have e7:Rn m ⟨lg,1,J⟩=N (I Re (na g H.gG k:Nat)):=ap;have e8:m.frozen? ⟨lg,1,J⟩=false:=by rw[<-e2];exact dj (w:=W) (a:=⟨lg,1,J⟩) (bz.o.block lg (by omega) (by show lg≠G (Q w5);omega))
    have E:gy (gR (fun j=>j=G (Q w5)) w5 m):=gj ((gR.gO y.o).trans bz.o);clear e1 e2 ap;have d9:=aa.o.size;have c4:=a5.o.size;have c5:=E.o.size;have dv:=gm HL.o;have b5:gy (iX m (fun j=>G (Q w)<=j/\j<G (Q wr)) (Q6 (N ⟨q,0,J⟩) d d) (pO H.gG k)):=gj (bN.o.iI (au c4 c5) fun j C t fz l _ hF=>(E.o.block j (by omega) (by show j≠G (Q w5);omega)).trans (a5.o.block j (by omega) fun e=>by have:=bH.o j e;omega));have a7:gy ((pO H.gG k).length=d):=gj (by rw[ID (by rw[<-x.o];omega),x.o]);obtain⟨gs,os,cap,u0,b6,s0,sf,-,-⟩:=b5.o.store (n:=k) (by rw[a7.o];exact Z);obtain⟨e1,e2,e3⟩:=Value.slice.inj b6;obtain⟨rfl,rfl⟩:q=gs/\0=os:=by cases e1;exact⟨rfl,rfl⟩
    rw[bY]at s0 sf;have eb:=gK s0;have ec:q≠lg:=by omega
    have ci:gy (l8 m (fun j=>G (Q w)<=j/\j<G (Q m)) (Q6 R 64 U) b):=gj (by have h1:l8 w5 (fun j=>G (Q w)<=j/\j<G (Q m)) (Q6 R (O b) U) b:=⟨br.o,a4.o,fun j e=>by have h2:=b3.o j e;obtain⟨C,fz,hC⟩:=a4.o j e;have:=gm hC;omega⟩;rw[bl]at h1;exact h1.iI fun j C fz l _=>E.o.block j (gm l) (by show j≠G (Q w5);have:=gm l;omega));clear e1 e2 e3 b6 a4 br b3;go_wp2;obtain⟨w8,M⟩:∃w8,w8=Rp m ⟨lg,1,J⟩ (I Re (max (na g H.gG k:Int) ((gN b).gF:Int))):=⟨_,rfl⟩;have c7:gy (jl w8 lg h {g with gF:=na g H.gG (k+1)}):=gj (by rw[M,He bk.o];have h1:=QN m lg 1 (I Re (max (na g H.gG k:Int) ((gN b).gF:Int))) (E.o.at (by show lg≠G (Q w5);omega) b4.o);rw[show(max (na g H.gG k:Int) ((gN b).gF:Int))=((max (na g H.gG k) (gN b).gF:Nat):Int) by omega]at h1⊢;exact h1);have X:∀j,j≠lg->w8.heap[j]?=m.heap[j]?:=fun j l=>by rw[M];exact Below.heap_setCell m ⟨lg,1,J⟩ _ j l
    have ed:G (Q w8)=G (Q m):=by rw[M,QO]
    have c8:gy (gR (fun j=>F j\/j=lg) w w8):=gj (by rw[M];exact((aa.o.trans (a5.o.mono fun j l=>.inl l)).j8 E.o fun j l=>.inr (by have eg:j=G (Q w5):=l;omega)).setCell _ _ (.inl (.inr rfl)));have c9:gy (iX w8 (fun j=>G (Q w)<=j/\j<G (Q m)) (Q6 (N ⟨q,0,J⟩) d d) (pO H.gG k)):=gj ((b5.o.iI (by omega) fun j C t fz l _ hF=>X j (by omega)).mono fun j l=>by omega);have da:gy (l8 w8 (fun j=>G (Q w)<=j/\j<G (Q m)) (Q6 R 64 U) b):=gj (ci.o.iI fun j C fz l hF=>X j (by omega));have dc:gy (iU w8 F h (H.oN k).jy):=gj (bs.o.frame (by omega) fun j l=>(X j (fun e=>bE (e▸l))).trans (E.o.block j (bs.o.lt j l) (by show j≠G (Q w5);have:=bs.o.lt j l;omega)));rw[<-M];clear M;have bA:=iX.set (w:=w8) (w':=Rp w8 ⟨q,0+k,J⟩ (Q6 R 64 U)) (gs:=q) (os:=0) (cap:=d) (n:=k) (rows:=pO H.gG k) (F:=fun j=>G (Q w)<=j/\j<G (Q m)) (u:=Q6 R 64 U) (s:=b) (by rw[a7.o];exact c9.o) (by rw[a7.o];exact Z) (fun _ _ _=>da.o) rfl;rw[a7.o,bY,<-Ge bk.o]at bA;refine⟨⟨k+1,by omega,by go_num,?_,bA.mono fun j l=>by rw[QO];omega,?_,c8.o.setCell _ _ (.inr ce),?_⟩,by simp[intOf];omega⟩
    .rw[<-cs.o bS.o];exact dc.o.frame (by rw[QO];exact aq _) fun j l=>Below.heap_setCell w8 ⟨q,k,J⟩ _ j (by show j≠q;have:=bH.o j l;omega)
    .exact(Below.heap_setCell w8 ⟨q,k,J⟩ _ lg (by show lg≠q;omega)).trans c7.o
    .intro hc;exact a2.o ⟨hc.1,by have:=bS.o;omega⟩
  .obtain rfl:k=d:=by omega
   have bo:gy (ja H=(H.oN k,J)):=gj (by unfold ja gA.oN;rw[af (by rw[<-x.o];exact a2.o),<-x.o]);go_wp2;go_ret2;rw[bo.o];have h1:pO H.gG k=H.gG:=by unfold pO;rw[x.o,aM,ee];simp
   exact⟨bi.o,aa.o,⟨_,rfl,by rw[<-h1];exact bN.o,by rw[<-x.o];exact bO.o⟩⟩
structure rF(w:Q0)(c gb go cap at' tt:Nat)(l:gw):Prop where
 row:w.heap[c]?=N (Q1 #[Q6 (N ⟨gb,go,J⟩) (O l) cap,I Y (at':Nat),I Y (tt:Nat),Q5 J] 254 (0,0))
 bytes:gI w (Q6 (N ⟨gb,go,J⟩) (O l) cap) l
 ne:gb≠c
 cap:O l<=cap
 len:O l<=1000
theorem rF.drew{go:Nat}(h:rF w c gb go cap at' tt l):rF w.drew c gb go cap at' tt l:=⟨h.row,h.bytes,h.ne,h.cap,h.len⟩
theorem xD(h:w.grownBy w' (N c)):gR (fun j=>j=c) w w':=⟨h.os,h.tape,h.output,h.size,fun k hk b=>h.block k hk fun e=>b (by cases e;rfl)⟩
theorem Fh(c gb go cap at' tt n:Nat)(l:gw)(w:Q0)(h:rF w c gb go cap at' tt l)(U:n<=100)(M:1<=n)(V:tt+n<=O l):
  Rg prog 157 #[Q5 (N ⟨c,0,J⟩),I Y n] w fun e w'=>e=Ra (Q6 (N ⟨gb,go+tt,J⟩) n n)/\rF w' c gb go cap tt (tt+n) l/\gR (fun j=>j=c) w w':=by
 obtain⟨d,r,s,q,B⟩:=h;have c0:Rn w ⟨c,0,J⟩=N (Q6 (N ⟨gb,go,J⟩) (O l) cap):=aP w c 0 _ _ _ d;have c1:Rn w ⟨c,1,J⟩=N (I Y at'):=aP w c 1 _ _ _ d;have c2:Rn w ⟨c,2,J⟩=N (I Y tt):=aP w c 2 _ _ _ d;have c3:Rn w ⟨c,3,J⟩=N (Q5 J):=aP w c 3 _ _ _ d;have f1:=dg w c 1 _ _ d;have f2:=dg w c 2 _ _ d;have f3:=dg w c 3 _ _ d;have R:=gm d;have C:=gj d;have D:=gj r;clear d r;have W:(tt:Int)<=tt+n:=by omega
 have X:(tt:Int)+n<=cap:=by omega
 have Z:tt+n<=cap:=by omega
 have k4:¬(tt:Int)+n<0:=by omega
 have S:¬(O l:Int)-tt<n:=by omega
 go_enter func157,ntmps157;go_wp2;go_quiet (fail);go_wp2;go_region
 all_goals (go_wp2;go_quiet (fail);go_wp2)
 go_ret;have u:=QN w c 1 (I Y tt) C.o;have x:=QN (Rp w ⟨c,1,J⟩ (I Y tt)) c 2 (I Y (tt+n:Nat)) u
 have i:∀k m,w.grownBy ((((w.drewN k).setCell ⟨c,1,J⟩ (I Y tt)).setCell ⟨c,2,J⟩ (I Y (tt+n:Nat))).drewN m) (N c):=fun k m=>
  sI (jf (jg ((gJ w).drewN k) 1 _) 2 _) m
 have y:∀k m,gI ((((w.drewN k).setCell ⟨c,1,J⟩ (I Y tt)).setCell ⟨c,2,J⟩ (I Y (tt+n:Nat))).drewN m) (Q6 (N ⟨gb,go,J⟩) (O l) cap) l:=fun k m=>
  gE.grown D.o (i k m) (fun b E e=>s (by cases E;cases e;rfl))
 have F:tt+n-tt=n:=by omega
 refine⟨?_,⟨x,y _ _,s,q,B⟩,xD (i _ _)⟩;show Ra (Q6 (N ⟨gb,go+tt,J⟩) (tt+n-tt) (tt+n-tt))=_;rw[F]
theorem NT(c gb go cap at' tt:Nat)(l:gw)(w:Q0)(h:rF w c gb go cap at' tt l)(S:tt<=O l):
  Rg prog 157 #[Q5 (N ⟨c,0,J⟩),I Y 0] w fun e w'=>(∃v,e=Ra v/\gI w' v [])/\rF w' c gb go cap tt tt l/\gR (fun j=>j=c) w w':=by
 obtain⟨d,r,s,q,B⟩:=h;have c0:Rn w ⟨c,0,J⟩=N (Q6 (N ⟨gb,go,J⟩) (O l) cap):=aP w c 0 _ _ _ d;have c1:Rn w ⟨c,1,J⟩=N (I Y at'):=aP w c 1 _ _ _ d;have c2:Rn w ⟨c,2,J⟩=N (I Y tt):=aP w c 2 _ _ _ d;have c3:Rn w ⟨c,3,J⟩=N (Q5 J):=aP w c 3 _ _ _ d;have f1:=dg w c 1 _ _ d;have f2:=dg w c 2 _ _ d;have f3:=dg w c 3 _ _ d;have F:=gm d;have C:=gj d;have D:=gj r;clear d r;have U:(tt:Int)<=cap:=by omega
 have V:tt<=cap:=by omega
 have M:¬(O l:Int)-tt<0:=by omega
 have R:¬(O l:Int)<tt:=by omega
 go_enter func157,ntmps157;go_wp2;go_quiet (fail);go_wp2;go_region
 all_goals (go_wp2;go_quiet (fail);go_wp2)
 go_ret;have u:=QN w c 1 (I Y tt) C.o;have x:=QN (Rp w ⟨c,1,J⟩ (I Y tt)) c 2 (I Y tt) u
 have i:∀k m,w.grownBy ((((w.drewN k).setCell ⟨c,1,J⟩ (I Y tt)).setCell ⟨c,2,J⟩ (I Y tt)).drewN m) (N c):=fun k m=>
  sI (jf (jg ((gJ w).drewN k) 1 _) 2 _) m
 have y:∀k m,gI ((((w.drewN k).setCell ⟨c,1,J⟩ (I Y tt)).setCell ⟨c,2,J⟩ (I Y tt)).drewN m) (Q6 (N ⟨gb,go,J⟩) (O l) cap) l:=fun k m=>
  gE.grown D.o (i k m) (fun b E e=>s (by cases E;cases e;rfl))
 exact⟨⟨_,rfl,gI.nil _ _ _⟩,⟨x,y _ _,s,q,B⟩,xD (i _ _)⟩
theorem rF.part{go n:Nat}(h:rF w c gb go cap at' tt l)(k:Nat)(b:k+n<=O l):gI w (Q6 (N ⟨gb,go+k,J⟩) n n) ((l.drop k).take n):=by have h1:=(h.bytes.sub k (k+n) (by omega) b).cap' (cap':=n) (by omega);rw[show k+n-k=n by omega,List.drop_take,show k+n-k=n by omega]at h1;exact h1
theorem Hk(c gb go cap at' tt n:Nat)(l:gw)(w:Q0)(h:rF w c gb go cap at' tt l)(m:n<=100)(b:tt+n<=O l):
  Rg prog 157 #[Q5 (N ⟨c,0,J⟩),I Y (n:Nat)] w fun e w'=>(∃v,e=Ra v/\gI w' v ((l.drop tt).take n))/\rF w' c gb go cap tt (tt+n) l/\gR (fun j=>j=c) w w':=by
 by_cases d:1<=n
 .refine(Fh c gb go cap at' tt n l w h m d b).mono ?_;rintro e w' ⟨rfl,i,o⟩;exact⟨⟨_,rfl,i.part tt b⟩,i,o⟩
 .obtain rfl:n=0:=by omega
  exact NT c gb go cap at' tt l w h b
theorem Lu(c gb go cap at' tt:Nat)(s:gw)(w:Q0)(h:rF w c gb go cap at' tt s)(x:tt+8<=O s):
  Rg prog 156 #[Q5 (N ⟨c,0,J⟩)] w fun e w'=>e=Ra (I Re (j6 ((s.drop tt).take 8)))/\rF w' c gb go cap tt (tt+8) s/\gR (fun j=>j=c) w w':=by
 obtain⟨l,hl⟩:∃l,l=(s.drop tt).take 8:=⟨_,rfl⟩;have u:O l=8:=by rw[hl,ax,bu];omega
 have D:=gj hl;rw[<-hl];clear hl;go_enter func156,ntmps156;go_wp2_with (go_at_call 157;refine(Fh c gb go cap at' tt 8 s _ h (by decide) (by decide) x).mono ?_;rintro e w1 ⟨rfl,m,y⟩;have d:=m.part tt x;rw[<-D.o]at d;obtain⟨a,cap',he,E,B⟩:=d.gU;have F:=gj B;clear B d);rw[u]at he;cases he;go_loop [3,9] (fun c i=>∃k:Nat,k<=8/\i=I Y k/\c=I Re (j6 (l.take k))) (fun _ i=>8-(intOf i).toNat)
 case atStart=>exact⟨0,by omega,rfl,by simp[j6]⟩
 case round=>
  obtain⟨k,hk,rfl,rfl⟩:=hrel;by_cases U:k<8
  .have q:=pR k l (by omega);have r:j6 (l.take k)<256^7:=ae q (dU (by decide) (by omega));have H:=gj (rB l k (by omega));obtain⟨b,off,M,C⟩:=F.o k (by omega);cases M;have S:=(l[k]'(by omega)).toNat_lt;generalize j6 (l.take k)=v at *
   clear q;have d:v<72057594037927936:=r;clear r;go_wp2;go_round
   case rel=>refine⟨k+1,by omega,by go_num,?_⟩;have R:v*256 ||| (l[k]'(by omega)).toNat=v*256+(l[k]'(by omega)).toNat:=nat_join 8 _ _ (by omega) (by omega);rw[show((v:Int)*256)=((v*256:Nat):Int) by omega,u64_or_nat _ _ (by omega) (by omega),R,H.o]
   case measure=>simp[intOf];omega
  .obtain rfl:k=8:=by omega
   rw[aW (by omega)];go_wp2;go_ret;exact⟨rfl,m,y⟩
end Go.Proofs.YtkkfmkhbdoeglabGreatDoor
