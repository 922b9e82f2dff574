/- Lemmas of the proof. No condition. -/
import Derived.Test.YtkkfmkhbdoeglabGreatDoorV25
set_option maxHeartbeats 1000000
set_option maxRecDepth 100000
namespace Go.Proofs.YtkkfmkhbdoeglabGreatDoor
open Go renaming World->Q0,Value->Q4,Calls->Rg
open Go.Ending renaming returned->Ra
open Go.IntKind renaming i64->Y,u64->Re
open Go.Obj renaming cells->Q1
open Go.RowKit renaming Below->Q8
open Go.Value renaming int->I,slice->Q6,string->Q7,bool->Rh,ownBlock->Rl
open Go.World renaming heap->Q,cell?->Rn,alloc->Ro
open List renaming length->O,toArray->Rm
open Option renaming none->J,some->N
open _root_.Array renaming size->G
open Go.Proofs.Tryz
open Go.RowKit
variable{S:List E}{k n r:Nat}{v:Q4}
def sG(x:E):Q4:=.agg #[I Y x.1.1,Q7 ⟨Rm x.1.2⟩,Q7 ⟨Rm x.2⟩]
theorem Bh:(prog.info? 108).map (fun i=>(i.zero,i.size,i.bytes))=N (N (.agg #[I Y 0,Q7 ⟨#[]⟩,Q7 ⟨#[]⟩]),3,40):=by kernel_rfl
theorem iD.src{w:Q0}{l:List E}(h:iD w v l):Src prog 3 25 v (O l) (gV l) w:=gE.src underlying25 h (tT l)
theorem rC(w:Q0)(x:E):iD (Ro w (Q1 #[I Y x.1.1,Q7 ⟨Rm x.1.2⟩,Q7 ⟨Rm x.2⟩] 108)) (Q6 (N ⟨G (Q w),0,J⟩) 1 1) [x]:=by
 refine⟨rfl,_,_,rfl,aq _,fun i b=>⟨G (Q w),0,rfl,?_⟩⟩;rw[bY,pK];have d:i<3:=b;have:i=0\/i=1\/i=2:=by omega
 rcases this with rfl|rfl|rfl<;>rfl
theorem KL{w w':Q0}{v':Q4}{d:List Q4}(j:(∃g off cap,v=Q6 (N ⟨g,off,J⟩) n cap/\v'=Q6 (N ⟨g,off,J⟩) (n+k) cap/\w'=w.setCells g (off+n*3) d)\/v'=Q6 J 0 0\/∃cap,v'=Q6 (N ⟨G (Q w),0,J⟩) (n+k) cap/\Q8 (G (Q w)) w w'):
  ∀b,b<G (Q w)->Rl v≠N b->Rl v'≠N b:=by
 intro b l i;rcases j with ⟨g,off,cap,rfl,rfl,_⟩|rfl|⟨cap,rfl,_⟩
 .exact i
 .simp[Value.ownBlock]
 .simp[Value.ownBlock];omega
theorem lK{iS:Array Oper}{rest:List Oper}{o:Oper}{a:Act}{d:Exit->Act->Q0->Prop}{w:Q0}(m:o.guard=J)(s x:Operand)(y:o.op=.call {callee:=.builtin .append,args:=#[s,x],argTypes:=#[25,25]})(base:Nat)(v:Q4)(os:List E)(B:a.eval s=v)(j:gS w base 3 v (O os) (gV os))(us:List E)(C:iD w (a.eval x) us)(D:O os+O us<=2932031007402)(i:base<=G (Q w))(h:∀v' w',gS w' base 3 v' (os++us).length (gV (os++us))->w.grownBy w' (Rl v)->Q8 base w w'->(∀b,b<G (Q w)->Rl v≠N b->Rl v'≠N b)->
    wpList prog iS d rest (a.put o.dst v') w'):wpList prog iS d (o::rest) a w:=by
 obtain⟨i0,F,q,l,r⟩:=dE Bh;have hmx:maxLen=9223372036854775807:=rfl;refine nO m s x _ _ y base 3 108 i0 _ underlying25 F q l (by rw[l];rfl) (by omega) v (O os) (gV os) B j (O us) (gV us) C.src (by omega) (by rw[r];omega) i (fun v' w' h1 u M=>?_);rw[<-oY,<-ab]at h1;exact h v' w' h1 u (jF j u i) (KL M)
theorem Gv(x y:E)(w:Q0):Rg prog 100 #[sG x,sG y] w fun e w'=>e=Ra (Rh (oT x.1 y.1))/\Q8 (G (Q w)) w w':=by
 obtain⟨⟨T,b⟩,r⟩:=x;obtain⟨⟨U,d⟩,s⟩:=y;unfold sG;have l:Q8 (G (Q w)) w ((Ro w (Q1 #[I Y T,Q7 ⟨Rm b⟩,Q7 ⟨Rm r⟩] 108)).alloc (Q1 #[I Y U,Q7 ⟨Rm d⟩,Q7 ⟨Rm s⟩] 108)):=((gJ w).alloc gH _).alloc (by simp) _;rcases dY T U with h|h|h
 .have i:gy (oT (T,b) (U,d)=true):=gj (by simp[oT,h]);go_enter func100,ntmps100;go_wp2;go_ret;exact⟨by rw[i.o];rfl,l⟩
 .subst h;have m:Op.bytesLess b d=decide (b<d):=bytesLess_eq _ _;cases j:decide (b<d) with
  | true=>have i:gy (oT (T,b) (T,d)=true):=gj (by simpa [oT]using j);rw[j]at m;clear j;go_enter func100,ntmps100;go_wp2;go_ret;exact⟨by rw[i.o];rfl,l⟩
  | false=>have i:gy (oT (T,b) (T,d)=false):=gj (by simpa [oT]using j);rw[j]at m;clear j;go_enter func100,ntmps100;go_wp2;go_ret;exact⟨by rw[i.o];rfl,l⟩
 .have u:¬T<U:=by omega
  have q:¬T=U:=by omega
  have i:gy (oT (T,b) (U,d)=false):=gj (by simp[oT,u,q]);clear h;go_enter func100,ntmps100;go_wp2;go_ret;exact⟨by rw[i.o];rfl,l⟩
def lT(y:E)(st:List E×Bool)(x:E):List E×Bool:=
 if x.1=y.1 then st else if st.2=false/\oT y.1 x.1=true then(st.1++[y]++[x],true)else(st.1++[x],st.2)
def kj(y:E)(oE:Bool)(l:List E):List E×Bool:=l.foldl (lT y) ([],oE)
def sy(l:List E)(y:E)(oE:Bool):List E:=if(kj y oE l).2 then(kj y oE l).1 else(kj y oE l).1++[y]
theorem wD(y:E)(oE:Bool)(l:List E)(k:Nat)(h:k<O l):kj y oE (l.take (k+1))=lT y (kj y oE (l.take k)) l[k]:=by unfold kj;rw[aC h,dZ];rfl
theorem zZ(y:E)(st:List E×Bool)(x:E):(lT y st x).1.length<=O st.1+2:=by
 unfold lT;split
 .omega
 .split<;>simp
theorem zY(y:E)(oE:Bool)(l:List E):(kj y oE l).1.length<=2*O l:=by
 have:∀(l:List E) (st:List E×Bool),(l.foldl (lT y) st).1.length<=O st.1+2*O l:=by
  intro l
  induction l with
  | nil=>intro st;simp
  | cons x l ih=>intro st;have h1:=ih (lT y st x);have b:=zZ y st x;rw[eJ,ao];omega
 have:=this l ([],oE);simpa [kj]using this
def xm(w1:Q0)(y:E)(oE:Bool)(l:List E)(b d i:Q4)(wr:Q0):Prop:=
 ∃k,k<=O l/\i=I Y (k:Int)/\d=Rh (kj y oE (l.take k)).2/\gS wr (G (Q w1)) 3 b (kj y oE (l.take k)).1.length (gV (kj y oE (l.take k)).1)/\Q8 (G (Q w1)) w1 wr
theorem gS.Pz{w:Q0}{base:Nat}{b:List Q4}(h:gS w base k v n b)(q:Nat)(o:Obj):gS ((w.drewN q).alloc o) base k v n b:=gS.below (w:=w.drewN q) h ((kz).alloc gH _)
theorem xm.next{w1 W:Q0}{y:E}{oE b:Bool}{l os:List E}{d:Q4}(hk:k<O l)(i:kj y oE (l.take (k+1))=(os,b))(j:gS W (G (Q w1)) 3 d (O os) (gV os))(m:Q8 (G (Q w1)) w1 W):
  xm w1 y oE l d (Rh b) (I Y ((k:Int)+1)) W:=
 ⟨k+1,by omega,rfl,by rw[i],by rw[i];exact j,m⟩
theorem zI(v:Q4)(l:List E)(y:E)(oE:Bool)(w:Q0)(h:iD w v l)(hl:O l<=1000000000):
  Rg prog 55 #[v,sG y,Rh oE] w fun e w'=>∃v',e=Ra v'/\gS w' (G (Q w)) 3 v' (sy l y oE).length (gV (sy l y oE))/\Q8 (G (Q w)) w w':=by
 obtain⟨a,cap,rfl,-,-⟩:=h.gU;have F:Q8 (G (Q w)) w (Ro w (Q1 #[I Y y.1.1,Q7 ⟨Rm y.1.2⟩,Q7 ⟨Rm y.2⟩] 108)):=(gJ w).alloc gH _;have bP:=gj (h.below F);have B1:=gj (gB w (Q1 #[I Y y.1.1,Q7 ⟨Rm y.1.2⟩,Q7 ⟨Rm y.2⟩] 108));obtain⟨⟨U,b⟩,j⟩:=y;unfold sG;clear h;go_enter func55,ntmps55;go_wp2;have s1:=aj w (Q1 #[I Y U,Q7 ⟨Rm b⟩,Q7 ⟨Rm j⟩] 108);generalize bR:Ro w (Q1 #[I Y U,Q7 ⟨Rm b⟩,Q7 ⟨Rm j⟩] 108)=w1 at *
 clear bR;go_loopw [7,8,9] (fun ov iv i wr=>xm w1 ((U,b),j) oE l ov iv i wr) (fun _ _ i _=>O l-(intOf i).toNat)
 case atStart=>exact⟨0,aJ _,rfl,rfl,gS.nil _ _ _,kz⟩
 case round=>
  obtain⟨k,hk,rfl,rfl,q,u⟩:=hrel;obtain⟨oa,Z,rfl⟩:=q.shape;have b0:=gC u (by omega) B1.o;have u0:=gr 0 b0;have u1:=gr 1 b0;have u2:=gr 2 b0;have lu:=gm b0;have a5:=zY ((U,b),j) oE (l.take k);rw[ax]at a5;obtain⟨st,a6⟩:∃st,st=kj ((U,b),j) oE (l.take k):=⟨_,rfl⟩;rw[<-a6]at q a5⊢;have M:=gj a6;obtain⟨os,a7⟩:=st;simp only at q a5⊢;have bv:=u.size;clear a6;by_cases a8:k<O l
  .have b9:(k:Int)<O l:=by omega
   have HN:=gj (wD ((U,b),j) oE l k a8);obtain⟨a',cap',he,-,hx⟩:=bP.o.gU;cases he;obtain⟨r,D,rfl,X0,X1,X2⟩:=hx k a8;generalize bX:l[k]=x at *
   obtain⟨⟨T,s⟩,R⟩:=x;simp only at X0 X1 X2;have S:r<G (Q w1):=gK X0;have x0:=(u.cell (p:=⟨r,D+k*3,J⟩) S).trans X0;have x1:=(u.cell (p:=⟨r,D+k*3+1,J⟩) S).trans X1;have x2:=(u.cell (p:=⟨r,D+k*3+2,J⟩) S).trans X2;have X0:=gj X0;have X1:=gj X1;have X2:=gj X2;have lx:=gK x0;clear hx bX
   have bw:∀(ap:List E) (ak:Bool) (bb:Q4) (W:Q0),kj ((U,b),j) oE (l.take (k+1))=(ap,ak)->gS W (G (Q w1)) 3 bb (O ap) (gV ap)->Q8 (G (Q w1)) w1 W->xm w1 ((U,b),j) oE l bb (Rh ak) (I Y ((k:Int)+1)) W:=
    fun ap ak bb W h1 h2 h3=>xm.next a8 h1 h2 h3
   have av:=gj bw;clear bw;have aE:(T=U/\s=b)\/(T≠U\/(T=U/\(s==b)=false)):=by
    by_cases hT:T=U
    .cases hq:(s==b) with
     | true=>exact .inl ⟨hT,aT.1 hq⟩
     | false=>exact .inr (.inr ⟨hT,rfl⟩)
    .exact .inr (.inl hT)
   rcases aE with ⟨hT,hk⟩|aE
   .have HS:gy (kj ((U,b),j) oE (l.take (k+1))=(os,a7)):=gj (by rw[HN.o,<-M.o];unfold lT;rw[aw (by rw[hT,hk])]);have hq:(s==b)=true:=aT.2 hk;clear hk;go_wp2;go_quiet (fail);go_wp2;exact⟨av.o _ _ _ _ HS.o q (u.drewN nq),by simp[intOf];omega⟩
   .have bc:gy (¬(((T,s),R):E).1=(U,b)):=gj (by
     intro e;obtain⟨e1,e2⟩:=Prod.mk.inj e;rcases aE with h|⟨-,h⟩
     .exact h e1
     .rw[e2]at h;simp at h)
    rcases aE with hT|⟨hT,hq⟩
    all_goals
     go_wp2;go_quiet (fail);clear hT;cases a7 with
     | true=>have HS:gy (kj ((U,b),j) oE (l.take (k+1))=(os++[((T,s),R)],true)):=gj (by rw[HN.o,<-M.o];unfold lT;rw[af bc.o,af (by simp)]);go_wp2;go_quiet (fail);go_wp2_with (at_builtin;refine lK rfl (.tmp 49) (.tmp 54) rfl (G (Q w1)) (Q6 oa (O os) Z) os rfl (by exact gS.Pz q _ _) [((T,s),R)] (by exact rC _ ((T,s),R)) (by simp;omega) (by simp;omega) ?_;intro v8 w8 d bi V am;obtain⟨ag,X,rfl⟩:=d.shape);exact⟨av.o _ _ _ _ HS.o (by simpa using d) ((u.drewN _ |>.alloc bv _).trans V),by simp[intOf];omega⟩
     | false=>
      have C:Q8 (G (Q wr)) wr (wr.drewN nq):=(gJ wr).drewN nq;have bx:=(C.cell (p:=⟨G (Q w),0,J⟩) lu).trans u0;have bz:=(C.cell (p:=⟨G (Q w),1,J⟩) lu).trans u1;have bA:=(C.cell (p:=⟨G (Q w),2,J⟩) lu).trans u2;have bB:=(C.cell (p:=⟨r,D+k*3,J⟩) lx).trans x0;have bD:=(C.cell (p:=⟨r,D+k*3+1,J⟩) lx).trans x1;have bE:=(C.cell (p:=⟨r,D+k*3+2,J⟩) lx).trans x2;have sq:(wr.drewN nq).heap.size=G (Q wr):=rfl;have a0:=q.below C;have bk:=u.drewN nq;clear C q u0 u1 u2 x0 x1 x2 b0;generalize wr.drewN nq=wq at *
      have bl:r<G (Q wq):=by omega
      have bn:G (Q w)<G (Q wq):=by omega
      go_wp2_with fail;refine wp_region_still_tail 8 (by kernel_rfl) (by kernel_rfl) ?_;simp only[aN,bp,cN,bC]
      repeat still_step
      refine wpStill_nil ?_;go_wp2_with fail;refine(Gv ((U,b),j) ((T,s),R) _).mono ?_;rintro e w7 ⟨rfl,bH⟩;have m:Q8 (G (Q wq)) wq w7:=((Below.refl (G (Q wq)) wq).drew).trans bH;have a1:=a0.below m;have v0:=(m.cell (p:=⟨G (Q w),0,J⟩) bn).trans bx;have v1:=(m.cell (p:=⟨G (Q w),1,J⟩) bn).trans bz;have v2:=(m.cell (p:=⟨G (Q w),2,J⟩) bn).trans bA;have y0:=(m.cell (p:=⟨r,D+k*3,J⟩) bl).trans bB;have y1:=(m.cell (p:=⟨r,D+k*3+1,J⟩) bl).trans bD;have y2:=(m.cell (p:=⟨r,D+k*3+2,J⟩) bl).trans bE;have cl:=m.size;have cm:G (Q w)<G (Q w7):=by omega
      have cn:r<G (Q w7):=by omega
      have bo:Q8 (G (Q w1)) w1 w7:=bk.trans (m.mono bk.size);clear bH m a0 bx bz bA bB bD bE;cases hd:oT (U,b) (T,s) with
      | false=>have HS:gy (kj ((U,b),j) oE (l.take (k+1))=(os++[((T,s),R)],false)):=gj (by rw[HN.o,<-M.o];unfold lT;rw[af bc.o,af (by simp[hd])]);go_wp2_with (at_builtin;refine lK rfl (.tmp 49) (.tmp 54) rfl (G (Q w1)) (Q6 oa (O os) Z) os rfl (by exact a1.below ((gJ w7).alloc gH _)) [((T,s),R)] (by exact rC _ ((T,s),R)) (by simp;omega) (by simp;omega) ?_;intro v8 w8 d bi V am;obtain⟨ag,X,rfl⟩:=d.shape);exact⟨av.o _ _ _ _ HS.o (by simpa using d) ((bo.alloc (by omega) _).trans V),by simp[intOf];omega⟩
      | true=>have HS:gy (kj ((U,b),j) oE (l.take (k+1))=(os++[((U,b),j)]++[((T,s),R)],true)):=gj (by rw[HN.o,<-M.o];unfold lT;rw[af bc.o,aw (by simp[hd])]);go_wp2_with (first|(at_builtin;refine lK rfl (.tmp 45) (.tmp 47) rfl (G (Q w1)) (Q6 oa (O os) Z) os rfl (by exact a1.below ((gJ w7).alloc gH _)) [((U,b),j)] (by exact rC _ ((U,b),j)) (by simp;omega) (by simp;omega) ?_;intro v8 w8 d bi V am;obtain⟨ag,X,rfl⟩:=d.shape;have B:Q8 (G (Q w1)) w1 w8:=(bo.alloc (by omega) _).trans V;have ce:=B.size;have z0:=(B.cell (p:=⟨r,D+k*3,J⟩) S).trans X0.o;have z1:=(B.cell (p:=⟨r,D+k*3+1,J⟩) S).trans X1.o;have z2:=(B.cell (p:=⟨r,D+k*3+2,J⟩) S).trans X2.o;have lz:r<G (Q w8):=ae S B.size;have br:gS w8 (G (Q w1)) 3 (Q6 ag (O os+1) X) (os++[((U,b),j)]).length (gV (os++[((U,b),j)])):=by simpa using d)|(at_builtin;refine lK rfl (.tmp 49) (.tmp 54) rfl (G (Q w1)) (Q6 ag (O os+1) X) (os++[((U,b),j)]) rfl (by exact br.below ((gJ w8).alloc gH _)) [((T,s),R)] (by exact rC _ ((T,s),R)) (by simp;omega) (by simp;omega) ?_;intro v9 w9 a2 co b4 cg;obtain⟨cp,ci,rfl⟩:=a2.shape));exact⟨av.o _ _ _ _ HS.o (by simpa using a2) ((B.alloc (by omega) _).trans b4),by simp[intOf];omega⟩
  .obtain rfl:k=O l:=by omega
   have cq:¬(O l:Int)<O l:=by omega
   rw[aM]at M;cases a7 with
   | true=>have HW:gy (sy l ((U,b),j) oE=os):=gj (by unfold sy;rw[<-M.o];rfl);go_wp2;go_ret;exact⟨_,rfl,by rw[HW.o];exact q.mono F.size,F.trans (u.mono F.size)⟩
   | false=>have HW:gy (sy l ((U,b),j) oE=os++[((U,b),j)]):=gj (by unfold sy;rw[<-M.o];rfl);go_wp2_with (at_builtin;refine lK rfl (.tmp 58) (.tmp 60) rfl (G (Q w1)) (Q6 oa (O os) Z) os rfl (by exact q.below ((gJ wr).alloc gH _)) [((U,b),j)] (by exact rC _ ((U,b),j)) (by simp;omega) (by simp;omega) ?_;intro v8 w8 d bi V am;obtain⟨ag,X,rfl⟩:=d.shape);go_ret;exact⟨_,rfl,by rw[HW.o];exact by simpa using d.mono F.size,F.trans (((u.alloc bv _).trans V).mono F.size)⟩
theorem zi(q:E->Bool)(p:List E)(x:E):(p++[x]).filter q=p.filter q++(if q x then [x]else []):=by rw[dB,eQ];cases q x<;>rfl
theorem yi{l:List E}(h:gM l)(y:E):∀k,k<=O l->
  (kj y false (l.take k)=((l.take k).filter (fun x=>oT x.1 y.1),false)/\(l.take k).filter (fun x=>oT y.1 x.1)=[])\/
  (kj y false (l.take k)=((l.take k).filter (fun x=>oT x.1 y.1)++y::(l.take k).filter (fun x=>oT y.1 x.1),true)/\∃z∈l.take k,oT y.1 z.1=true)
 | 0,_=>.inl ⟨rfl,rfl⟩
 | k+1,hk=>by
  have o:k<O l:=by omega
  have u:l.take (k+1)=l.take k++[l[k]]:=aC o;have B:gM (l.take k++[l[k]]):=by rw[<-u];exact h.sublist (List.take_sublist _ _)
  have j:∀z∈l.take k,oT z.1 l[k].1=true:=fun z m=>(dR.1 B).2.2 z m _ (by simp);rw[wD y false l k o,u,zi,zi];generalize l[k]=x at *
  rcases yi h y k (by omega)with ⟨e,s⟩|⟨e,z,m,q⟩
  .rw[e];unfold lT;rcases xQ x.1 y.1 with b|b|b
   .have d:¬x.1=y.1:=sK b;have r:=mY b;rw[af d,af (by simp[r])];simp only[b,r,dX,s];exact .inl ⟨by simp,by simp⟩
   .rw[aw b];have h1:oT x.1 y.1=false:=by rw[b];exact rJ _
    have C:oT y.1 x.1=false:=by rw[b];exact rJ _
    simp only[h1,C,s];exact .inl ⟨by simp,by simp⟩
   .have d:¬x.1=y.1:=fun e=>sK b e.symm;have i:=mY b;rw[af d,aw ⟨rfl,b⟩];simp only[b,i,dX,s];exact .inr ⟨by simp,⟨x,by simp,b⟩⟩
  .rw[e];have b:=qf q (j z m);have d:¬x.1=y.1:=fun e=>sK b e.symm;have i:=mY b;unfold lT;rw[af d,af (by simp)];simp only[b,i,dX];exact .inr ⟨by simp,z,by simp[m],q⟩
theorem Mi{l:List E}(h:gM l)(y:E):sy l y false=nf y.1 y.2 l:=by
 have b:=yi h y (O l) gH;rw[aM]at b;unfold sy nf;rcases b with ⟨e,d⟩|⟨e,-⟩
 .rw[e,d];rfl
 .rw[e];rfl
theorem sM(y:E):∀(l:List E) (st:List E),l.foldl (lT y) (st,true)=(st++om y.1 l,true)
 | [],st=>by simp[om]
 | x::l,st=>by
  rw[eJ];by_cases b:x.1=y.1
  .have d:lT y (st,true) x=(st,true):=by unfold lT;rw[aw b]
   have i:om y.1 (x::l)=om y.1 l:=by unfold om;rw[eQ,af (by simp[b])]
   rw[d,i];exact sM y l st
  .have d:lT y (st,true) x=(st++[x],true):=by unfold lT;rw[af b,af (by simp)]
   have i:om y.1 (x::l)=x::om y.1 l:=by unfold om;rw[eQ,aw (by simp[b])]
   rw[d,i,sM y l (st++[x])];simp
theorem JP(l:List E)(y:E):sy l y true=om y.1 l:=by unfold sy kj;rw[sM];simp
def Av(w1:Q0)(d:Q4)(S:List E)(os:List kv)(lv i:Q4)(wr:Q0):Prop:=
 ∃k,k<=O os/\i=I Y (k:Int)/\iD wr lv (iO S (os.take k))/\(lv=d\/∀b,Rl lv=N b->G (Q w1)<=b/\b<G (Q wr))/\Q8 (G (Q w1)) w1 wr
theorem zH(v sv:Q4)(vn:Nat)(S:List E)(os:List kv)(w:Q0)(h:iD w v S)(hs:jE w sv os)(hS:gM S)(hl:O S<=900000000)(bn:O os<=8)(hk:∀o∈os,o.kind=1\/o.kind=2):
  Rg prog 54 #[v,.agg #[I Re vn,sv]] w fun e w'=>∃v',e=Ra v'/\iD w' v' (iO S os)/\(v'=v\/∀b,Rl v'=N b->G (Q w)<=b/\b<G (Q w'))/\Q8 (G (Q w)) w w':=by
 obtain⟨X,s,rfl,-⟩:=hs.gU;have F:Q8 (G (Q w)) w (Ro w (Q1 #[I Re (vn:Int),Q6 X (O os) s] 51)):=(gJ w).alloc gH _;have aE:=gj (h.below F);have a0:=gj (hs.below F);have B1:=gj (gB w (Q1 #[I Re (vn:Int),Q6 X (O os) s] 51));have s1:=aj w (Q1 #[I Re (vn:Int),Q6 X (O os) s] 51);clear h hs;go_enter func54,ntmps54;go_wp2;generalize a1:Ro w (Q1 #[I Re (vn:Int),Q6 X (O os) s] 51)=w1 at *
 clear a1;go_loopw [0,5] (fun lv i wr=>Av w1 v S os lv i wr) (fun _ i _=>O os-(intOf i).toNat)
 case atStart=>exact⟨0,aJ _,rfl,aE.o,.inl rfl,kz⟩
 case round=>
  obtain⟨k,bo,rfl,j,Z,r⟩:=hrel;have a2:=gj Z;clear Z;have b0:=gC r (by omega) B1.o;have u1:=gr 1 b0;have lu:=gm b0;have aa:=r.size;by_cases R:k<O os
  .have ba:(k:Int)<O os:=by omega
   obtain⟨a',cap',he,-,hx⟩:=(a0.o.below r).gU;cases he;obtain⟨eb,eo,rfl,x0,x1,x2,x3⟩:=hx k R;have HF:=gj (Be S os k R);have ag:=hk _ (bq R);have ak:=sm (os.take k) hS;have a6:=sg (os.take k) hS;rw[ax]at a6;generalize a7:os[k]=x at *
   obtain⟨kd,T,m,q⟩:=x;simp only at x0 x1 x2 x3 ag;have lx:=gK x0;have M:=gj j;have a8:=gj ak;obtain⟨la,am,rfl,-,-⟩:=j.gU;clear hx a7 j ak;rcases ag with rfl|rfl
   .have U:gy (Ja (iO S (os.take k)) ⟨1,T,m,q⟩=sy (iO S (os.take k)) ((T,m),q) false):=gj (by rw[Mi a8.o];rfl);have l:Q8 (G (Q wr)) wr (Ro wr (Q1 #[I Y 1,I Y T,Q7 ⟨Rm m⟩,Q7 ⟨Rm q⟩] 105)):=(gJ wr).alloc gH _;go_wp2_with fail;refine(zI _ (iO S (os.take k)) ((T,m),q) false _ (M.o.below l) (by omega)).mono ?_;rintro e V ⟨v',rfl,d,y⟩;obtain⟨W,B,rfl⟩:=d.shape;have C:Q8 (G (Q wr)) wr V:=l.trans (y.mono l.size);have u:Av w1 v S os (Q6 W (sy (iO S (os.take k)) ((T,m),q) false).length B) (I Y ((k:Int)+1)) V:=⟨k+1,by omega,rfl,by rw[HF.o,U.o];exact d.IA,.inr (fun b D=>by have h1:=d.ie b D;have h2:=d.iA b D;rw[aj]at h1;omega),r.trans (C.mono aa)⟩;clear d y l;go_wp2;exact⟨u,by simp[intOf];omega⟩
   .have U:gy (Ja (iO S (os.take k)) ⟨2,T,m,q⟩=sy (iO S (os.take k)) ((T,m),q) true):=gj (by rw[JP];rfl);have l:Q8 (G (Q wr)) wr (Ro wr (Q1 #[I Y 2,I Y T,Q7 ⟨Rm m⟩,Q7 ⟨Rm q⟩] 105)):=(gJ wr).alloc gH _;go_wp2_with fail;refine(zI _ (iO S (os.take k)) ((T,m),q) true _ (M.o.below l) (by omega)).mono ?_;rintro e V ⟨v',rfl,d,y⟩;obtain⟨W,B,rfl⟩:=d.shape;have C:Q8 (G (Q wr)) wr V:=l.trans (y.mono l.size);have u:Av w1 v S os (Q6 W (sy (iO S (os.take k)) ((T,m),q) true).length B) (I Y ((k:Int)+1)) V:=⟨k+1,by omega,rfl,by rw[HF.o,U.o];exact d.IA,.inr (fun b D=>by have h1:=d.ie b D;have h2:=d.iA b D;rw[aj]at h1;omega),r.trans (C.mono aa)⟩;clear d y l;go_wp2;exact⟨u,by simp[intOf];omega⟩
  .obtain rfl:k=O os:=by omega
   have br:¬(O os:Int)<O os:=by omega
   rw[aM]at j;have M:=gj j;obtain⟨la,am,rfl,-,-⟩:=j.gU;clear j;go_wp2;go_ret;exact⟨_,rfl,M.o,a2.o.imp id (fun h b D=>by have:=h b D;omega),F.trans (r.mono F.size)⟩
def Fv(w:Q0)(v:Q4)(l:List (Nat×List kv)):Prop:=
 ∃a cap,v=Q6 a (O l) cap/\O l<=cap/\∀i (h:i<O l),∃b off d,a=N ⟨b,off,J⟩/\Rn w ⟨b,off+i*2,J⟩=N (I Re (l[i].1:Int))/\Rn w ⟨b,off+i*2+1,J⟩=N d/\
  jE w d l[i].2/\uJ l[i].2/\l[i].1<18446744073709551616
def J0(w:Q0)(v:Q4)(l:List gw):Prop:=
 ∃a cap,v=Q6 a (O l) cap/\O l<=cap/\∀i (h:i<O l),∃b off,a=N ⟨b,off,J⟩/\Rn w ⟨b,off+i,J⟩=N (Q7 ⟨l[i].toArray⟩)/\l[i].length<=im
def Pt(w:Q0)(v:Q4)(l:List Int):Prop:=
 ∃a cap,v=Q6 a (O l) cap/\O l<=cap/\∀i (h:i<O l),∃b off,a=N ⟨b,off,J⟩/\Rn w ⟨b,off+i,J⟩=N (I Y l[i])
structure Mu(w:Q0)(lv tv nv:Q4)(l:List (Nat×List kv))(ts:List gw)(ns:List Int):Prop where
 d:Fv w lv l
 t:J0 w tv ts
 n:Pt w nv ns
 g:gZ w
 ge:kM w
section
variable {w w':Q0} {lv tv nv:Q4} {l:List (Nat×List kv)} {ts:List gw} {ns:List Int}
theorem Mu.below(h:Mu w lv tv nv l ts ns)(d:Q8 (G (Q w)) w w'):Mu w' lv tv nv l ts ns:=by
 obtain⟨⟨a,cap,e,hc,u⟩,⟨a2,m,x,q,y⟩,⟨a3,o,B,r,C⟩,D,s⟩:=h;refine⟨⟨a,cap,e,hc,fun i j=>?_⟩,⟨a2,m,x,q,fun i j=>?_⟩,⟨a3,o,B,r,fun i j=>?_⟩,D.new d,s.new d⟩
 .obtain⟨b,off,E,e,c0,c1,h1,F,M⟩:=u i j;exact⟨b,off,E,e,(d.cell (p:=⟨b,off+i*2,J⟩) (gK c0)).trans c0,(d.cell (p:=⟨b,off+i*2+1,J⟩) (gK c1)).trans c1,h1.below d,F,M⟩
 .obtain⟨b,off,e,c0,h1⟩:=y i j;exact⟨b,off,e,(d.cell (p:=⟨b,off+i,J⟩) (gK c0)).trans c0,h1⟩
 .obtain⟨b,off,e,c0⟩:=C i j;exact⟨b,off,e,(d.cell (p:=⟨b,off+i,J⟩) (gK c0)).trans c0⟩
end
theorem iD.Gq{w w':Q0}{l:List E}(h:iD w v l)(d:iE w r S)(j:gR (fun i=>i=r) w w'):iD w' v l:=by obtain⟨hl,a,cap,rfl,hc,m⟩:=h;refine⟨hl,a,cap,rfl,hc,fun i o=>?_⟩;obtain⟨b,off,e,c0⟩:=m i o;exact⟨b,off,e,j.cell (pL c0 d) c0⟩
theorem yp.other{w w':Q0}{fb q B:Nat}(h:yp w fb q r v S)(d:∀j,j≠B->w'.heap[j]?=w.heap[j]?)(h1:fb≠B)(i:q≠B)(m:r≠B)(o:∀b,Rl v=N b->b≠B):yp w' fb q r v S:=
 ⟨⟨(aS (a:=⟨fb,0,J⟩) (d fb h1)).trans h.t.cell,(aS (a:=⟨q,0,J⟩) (d q i)).trans h.t.ent.cell,h.t.ent.jh.iI (d r m)⟩,gE.frame h.l (fun b e _=>d b (o b e))⟩
open Go.ChangeShapes Go.WideShapes Go.ChangeAt Go.Deep
theorem Uu:prog.bytesOf 51=32:=by kernel_rfl
def JV:=yr 2 4398046511104 Ps
theorem Ug:qb 44 JV:=ug underlying44 UD (by omega) (fun n h=>by rw[Uu]at h;unfold reachBytes at h;omega) Ul
theorem JV.view{w:Q0}{l:List (Nat×List kv)}(h:JV w [v] l):O l<=4398046511104/\Fv w v l:=by obtain⟨hm,a,cap,o,hc,q⟩:=h;cases o;refine⟨hm,a,cap,rfl,hc,fun i r=>?_⟩;obtain⟨b,off,rfl,y,hl,d,s,rfl,u,x⟩:=q i r;obtain⟨-,j,m⟩:=x.view;exact⟨b,off,s,rfl,(d 0 (by omega)),(d 1 (by omega)),m,j,u⟩
def FA:=yr 1 8796093022208 KF
theorem FA.view{w:Q0}{l:List gw}(h:FA w [v] l):O l<=im/\J0 w v l:=by obtain⟨hm,a,cap,j,hc,m⟩:=h;cases j;refine⟨by unfold im;omega,a,cap,rfl,hc,fun i o=>?_⟩;obtain⟨b,off,rfl,r,hl,d,rfl,q⟩:=m i o;refine⟨b,off,rfl,?_,EM q⟩;have:=d 0 (by omega);simpa using this
theorem GX(v:Q4)(l:List E)(y:E)(w:Q0)(h:iD w v l)(hl:O l<=1000000000):
  Rg prog 57 #[v,sG y] w fun e w'=>e=Ra (Rh (ku y.1 l).isSome)/\Q8 (G (Q w)) w w':=by
 obtain⟨a,cap,rfl,-,-⟩:=h.gU;have j:Q8 (G (Q w)) w (Ro w (Q1 #[I Y y.1.1,Q7 ⟨Rm y.1.2⟩,Q7 ⟨Rm y.2⟩] 108)):=(gJ w).alloc gH _;have B:=gj (h.below j);have W:=gj (gB w (Q1 #[I Y y.1.1,Q7 ⟨Rm y.1.2⟩,Q7 ⟨Rm y.2⟩] 108));have r:=gj j;obtain⟨⟨U,b⟩,X⟩:=y;unfold sG;clear h j;go_enter func57,ntmps57;go_wp2;generalize C:Ro w (Q1 #[I Y U,Q7 ⟨Rm b⟩,Q7 ⟨Rm X⟩] 108)=w1 at *
 clear C;go_loopw [5] (fun i wr=>∃k:Nat,k<=O l/\i=I Y k/\(∀x∈l.take k,((U,b)==x.1)=false)/\∃q,wr=w1.drewN q) (fun i _=>O l-(intOf i).toNat)
 case atStart=>exact⟨0,aJ _,rfl,(fun x d=>by cases d),0,rfl⟩
 case round=>
  obtain⟨k,hk,rfl,D,q,rfl⟩:=hrel;have s:=gj D;clear D;have b0:=W.o;have u0:=gr 0 b0;have u1:=gr 1 b0;have lu:=gm b0;by_cases m:k<O l
  .have Z:(k:Int)<O l:=by omega
   obtain⟨a',cap',he,-,d⟩:=B.o.gU;cases he;obtain⟨b1,o1,rfl,c0,c1,c2⟩:=d k m;have HF:=gj (fun hk=>EB (p:=fun x:E=>(U,b)==x.1) m s.o hk);have F:=gj (fun hk=>yL (p:=fun x:E=>(U,b)==x.1) m s.o hk);clear d;generalize M:l[k]=x at *
   obtain⟨⟨T,R⟩,VB⟩:=x;simp only at c0 c1 c2;clear M c2 b0;by_cases S:T=U
   .cases hq:(R==b) with
    | true=>have e:R=b:=aT.1 hq;have HV:gy ((ku (U,b) l).isSome=true):=gj (by unfold ku;rw[HF.o (by rw[S,e];exact eW _)];rfl);clear e;go_wp2;go_quiet (fail);go_wp2;go_ret;exact⟨by rw[HV.o];rfl,by first|exact r.o.drewN _|exact(r.o.drewN _).drewN _⟩
    | false=>have u:gy (∀x∈l.take (k+1),((U,b)==x.1)=false):=gj (F.o (by rw[ar]at hq⊢;intro e;exact hq (Prod.mk.inj e).2.symm));go_wp2;go_quiet (fail);go_wp2;exact⟨⟨k+1,by omega,rfl,u.o,_,rfl⟩,by simp[intOf];omega⟩
   .have u:gy (∀x∈l.take (k+1),((U,b)==x.1)=false):=gj (F.o (by rw[ar];intro e;exact S (Prod.mk.inj e).1.symm));go_wp2;go_quiet (fail);go_wp2;exact⟨⟨k+1,by omega,rfl,u.o,_,rfl⟩,by simp[intOf];omega⟩
  .obtain rfl:k=O l:=by omega
   have ag:¬(O l:Int)<O l:=by omega
   have HV:gy ((ku (U,b) l).isSome=false):=gj (by have V:=s.o;rw[aM]at V;have:l.find? (fun x:E=>(U,b)==x.1)=J:=ez.2 (fun x d=>by rw[V x d];decide);unfold ku;rw[this];rfl);go_wp2;go_ret;exact⟨by rw[HV.o];rfl,by first|exact r.o.drewN _|exact(r.o.drewN _).drewN _⟩
theorem IC(x y:E)(w:Q0):(binOp .eql 108 (sG x) (sG y)).run prog w=.ok (Rh (x==y)) w:=by
 have h1:∀x:E,(part 3 #[I Y x.1.1,Q7 ⟨Rm x.1.2⟩,Q7 ⟨Rm x.2⟩] 0).run prog w=.ok (I Y x.1.1) w:=fun x=>eh w (by kernel_rfl) rfl;have q:∀x:E,(part 9 #[I Y x.1.1,Q7 ⟨Rm x.1.2⟩,Q7 ⟨Rm x.2⟩] 1).run prog w=.ok (Q7 ⟨Rm x.1.2⟩) w:=fun x=>eh w (by kernel_rfl) rfl;have r:∀x:E,(part 9 #[I Y x.1.1,Q7 ⟨Rm x.1.2⟩,Q7 ⟨Rm x.2⟩] 2).run prog w=.ok (Q7 ⟨Rm x.2⟩) w:=fun x=>eh w (by kernel_rfl) rfl;have s:prog.underlying 108=N (.struct (prog.fieldsOf 108)):=by kernel_rfl
 have F:prog.stoodInHeld 108=false:=by kernel_rfl
 have M:=TypeDesc.struct.inj (Option.some.inj (s.symm.trans underlying108));have R:∀m (x y:Int),(Op.equalIn (m+1) 3 (I Y x) (I Y y)).run prog w=.ok (x==y) w:=fun m x y=>by simp[Op.equalIn,aO underlying3]
 have u:∀m (x y:ByteArray),(Op.equalIn (m+1) 9 (Q7 x) (Q7 y)).run prog w=.ok (x==y) w:=fun m x y=>by simp[Op.equalIn,aO underlying9]
 have j:∀b d:gw,((⟨Rm b⟩:ByteArray)==⟨Rm d⟩)=(b==d):=fun b d=>by
  cases i:(b==d) with
  | true=>rw[aT]at i;subst i;exact(dH _ _).2 rfl
  | false=>
   rw[ar]at i;cases S:((⟨Rm b⟩:ByteArray)==⟨Rm d⟩) with
   | false=>rfl
   | true=>have:=(dH _ _).1 S;simp at this;exact absurd this i
 have U:∀n,(Op.equalIn (n+2) 108 (sG x) (sG y)).run prog w=.ok (x==y) w:=by
  intro n;unfold sG;rw[run_equalIn_agg w (n+1) 108 _ _ s F,M];simp only[Op.eqFields];rw[aw (by decide),aw (by decide),aw (by decide)];simp only[cI,h1 x,h1 y,R,cz];obtain⟨⟨a,c⟩,d⟩:=x;obtain⟨⟨a',c'⟩,d'⟩:=y;show _=Result.ok (((a==a')&&(c==c'))&&(d==d')) w;cases V:(a==a') with
  | false=>simp
  | true=>
   have B:=q ((a,c),d);have l:=q ((a',c'),d');have C:=r ((a,c),d);have o:=r ((a',c'),d');simp only at B l C o;simp only[fK,ew,dA,cI,B,l,u,cz,j,Bool.true_and];cases(c==c') with
   | false=>simp
   | true=>simp only[fK,ew,dA,cI,C,o,u,cz,j,Bool.true_and];cases(d==d')<;>simp
 have D:=U 9998;unfold sG at D⊢;simp only[binOp];simp[Op.equal,Op.maxDepth,D]
theorem BM(v:Q4)(l:List E)(y:E)(w:Q0)(h:iD w v l)(hl:O l<=1000000000):
  Rg prog 58 #[v,sG y] w fun e w'=>e=Ra (Rh (decide (y∈l)))/\Q8 (G (Q w)) w w':=by
 obtain⟨a,cap,rfl,-,-⟩:=h.gU;have j:Q8 (G (Q w)) w (Ro w (Q1 #[I Y y.1.1,Q7 ⟨Rm y.1.2⟩,Q7 ⟨Rm y.2⟩] 108)):=(gJ w).alloc gH _;have B:=gj (h.below j);have S:=gj (gB w (Q1 #[I Y y.1.1,Q7 ⟨Rm y.1.2⟩,Q7 ⟨Rm y.2⟩] 108));have r:=gj j;have s:=fun(x:E) w=>IC x y w;obtain⟨⟨U,b⟩,d⟩:=y;unfold sG at *
 clear h j;go_enter func58,ntmps58;go_wp2;generalize C:Ro w (Q1 #[I Y U,Q7 ⟨Rm b⟩,Q7 ⟨Rm d⟩] 108)=w1 at *
 clear C;go_loopw [5] (fun i wr=>∃k:Nat,k<=O l/\i=I Y k/\((U,b),d)∉l.take k/\∃q,wr=w1.drewN q) (fun i _=>O l-(intOf i).toNat)
 case atStart=>exact⟨0,aJ _,rfl,eU,0,rfl⟩
 case round=>
  obtain⟨k,hk,rfl,D,q,rfl⟩:=hrel;have F:=gj D;clear D;have b0:=S.o;have u0:=gr 0 b0;have u1:=gr 1 b0;have u2:=gr 2 b0;have lu:=gm b0;by_cases m:k<O l
  .have V:(k:Int)<O l:=by omega
   obtain⟨a',cap',he,-,M⟩:=B.o.gU;cases he;obtain⟨b1,o1,rfl,c0,c1,c2⟩:=M k m;have W:=gj (bq m);have X:=gj (aC m);clear M;generalize R:l[k]=x at *
   have u:=fun w=>s x w;obtain⟨⟨T,Z⟩,VB⟩:=x;simp only at c0 c1 c2 u;clear R b0 s;cases hq:(((T,Z),VB)==((U,b),d)) with
   | true=>rw[hq]at u;have HV:gy (decide (((U,b),d)∈l)=true):=gj (bh (by rw[<-aT.1 hq];exact W.o));clear hq;go_wp2;go_quiet (fail);go_wp2;go_ret;exact⟨by rw[HV.o];rfl,by first|exact r.o.drewN _|exact(r.o.drewN _).drewN _⟩
   | false=>rw[hq]at u;have HP:gy (((U,b),d)∉l.take (k+1)):=gj (by rw[X.o,bQ,ay];rw[ar]at hq;exact fun e=>e.elim F.o fun e=>hq e.symm);clear hq;go_wp2;go_quiet (fail);go_wp2;exact⟨⟨k+1,by omega,rfl,HP.o,_,rfl⟩,by simp[intOf];omega⟩
  .obtain rfl:k=O l:=by omega
   have ak:¬(O l:Int)<O l:=by omega
   have HV:gy (decide (((U,b),d)∈l)=false):=gj (aF (by have:=F.o;rwa [aM]at this));go_wp2;go_ret;exact⟨by rw[HV.o];rfl,by first|exact r.o.drewN _|exact(r.o.drewN _).drewN _⟩
theorem G0(v D:Q4)(l:List E)(r0 r1 r2:Int)(room:Nat->Int)(w:Q0)(h:iD w v l)(hl:O l<=1000000000)(V:gE w D 1 3 [I Y r0,I Y r1,I Y r2])(e0:room 0=r0)(X:room 1=r1)(Z:room 2=r2):
  Rg prog 16 #[v,D] w fun e w'=>e=Ra (I Y (si l room))/\Q8 (G (Q w)) w w':=by
 obtain⟨-,ra,ag,rfl,a0,x⟩:=V;have HR:=gj x;have F:=gj h;clear x h;go_enter func16,ntmps16;go_wp2;go_loopw [5] (fun i wr=>∃k:Nat,k<=3/\i=I Y k/\(∀t:Nat,t<k->(iq (t:Int) l:Int)<=room t)/\Q8 (G (Q w)) w wr) (fun i _=>3-(intOf i).toNat)
 case atStart=>exact⟨0,aJ _,rfl,(fun t C=>by omega),kz⟩
 case round=>
  obtain⟨k,hk,rfl,y,d⟩:=hrel;have j:=gj y;have m:=gj d;have HC:=gj (fun W (hW:Q8 (G (Q w)) w W)=>EW v l (k:Int) W (F.o.below hW) hl);by_cases B:k<3
  .have ap:(k:Int)<3:=by omega
   have u:∃b o,ra=N ⟨b,o,J⟩/\Rn w ⟨b,o+k,J⟩=N (I Y (room k)):=by
    obtain⟨b,o,e,c⟩:=HR.o k (by simp;omega);refine⟨b,o,e,c.trans ?_⟩
    match k,B with
    | 0,_=>rw[e0];rfl
    | 1,_=>rw[X];rfl
    | 2,_=>rw[Z];rfl
   obtain⟨b,o,rfl,c0⟩:=u;have d0:=(d.cell (p:=⟨b,o+k,J⟩) (gK c0)).trans c0;have M:b<G (Q wr):=ae (gK c0) d.size;obtain⟨va,av,rfl,-,-⟩:=F.o.gU;have R:gy (∀t:Nat,t<k+1->¬(room k<(iq (k:Int) l:Int))->(iq (t:Int) l:Int)<=room t):=gj (fun t C hn=>by
    by_cases h:t<k
    .exact j.o t h
    .obtain rfl:t=k:=by omega
     omega)
   have q:gy (room k<(iq (k:Int) l:Int)->si l room=(k:Int)):=gj (fun h=>GO B j.o h);generalize room k=S at *
   generalize iq (k:Int) l=cn at *
   clear y d c0;go_upto_region 4 with fail
   go_region_held3 (fun w'=>Rn w' ⟨b,o+k,J⟩=N (I Y S))
    (first|exact d0|exact(r.o.cell (p:=⟨b,o+k,J⟩) M).trans d0)
    (first|(go_at_call 56;refine(HC.o _ (by first|exact m.o|exact m.o.drew)).mono ?_;rintro e w2 ⟨rfl,s⟩;have r:gy (Q8 (G (Q wr)) wr w2):=gj (by first|exact s|exact(Below.rf wr).drew.tn s);clear s))
   all_goals
    by_cases U:S<(cn:Int)
    .go_wp2;go_ret;exact⟨by rw[q.o U];rfl,m.o.tn r.o⟩
    .go_wp2;go_roundw
     case rel=>exact⟨k+1,by omega,by go_num,(fun t C=>R.o t C (by omega)),m.o.tn r.o⟩
     case measure=>simp[intOf];omega
  .obtain rfl:k=3:=by omega
   have q:gy (si l room=-1):=gj (BA j.o);go_wp2;go_ret;exact⟨by rw[q.o];rfl,m.o⟩
theorem Kb(x:E):sG x=.agg #[I Y x.1.1,Q7 ⟨Rm x.1.2⟩,Q7 ⟨Rm x.2⟩]:=rfl
def rk(l:List Int)(k j:Nat):Int:=if j<k then p5 l j else 40
theorem Jw(l:List Int)(k j:Nat)(h:k=3\/k=O l)(d:j<3)(_hk:k<=3):rk l k j=gY l j:=by
 rw[NA l j d];unfold rk;by_cases b:j<k
 .rw[aw b]
 .rw[af b];unfold p5;rw[af (by omega)]
theorem OT(l:List Int)(k j:Nat)(h:k<O l):rk l (k+1) j=if j=k then min (max l[k] 0) 40 else rk l k j:=by
 unfold rk;by_cases d:j=k
 .subst d;rw[aw (by omega),aw rfl];unfold p5;rw[aw h,aD,ah h];rfl
 .rw[af d];by_cases b:j<k
  .rw[aw (by omega),aw b]
  .rw[af (by omega),af b]
def pZ(h t:List E)(k:Nat):List gw:=(oh (h.take k) t).map fun x=>oQ x.1
def pz(h t:List E)(k:Nat):List gw:=(oh h t).map (fun x=>oQ x.1)++(rY h (t.take k)).map fun x=>qy x.1 x.2
theorem MM(h t:List E):pz h t (O t)=Dq h t:=by unfold pz Dq lU oX nN;rw[aM,bj,gh,gh];rfl
theorem MO(h t:List E):pZ h t (O h)=pz h t 0:=by unfold pZ pz;rw[aM,bp];simp[rY]
theorem MK(h t:List E)(k:Nat)(hk:k<O h):pZ h t (k+1)=pZ h t k++if(ku h[k].1 t).isNone then [oQ h[k].1]else []:=by unfold pZ;rw[Ir h t k hk,bj];split<;>rfl
theorem ML(h t:List E)(k:Nat)(hk:k<O t):pz h t (k+1)=pz h t k++if t[k]∈h then []else [qy t[k].1 t[k].2]:=by unfold pz;rw[LC h t k hk,bj,bJ];split<;>rfl
theorem KS(h t:List E)(k:Nat):(pZ h t k).length<=k:=by unfold pZ oh;rw[aB];have:=cU (fun x:E=>(ku x.1 t).isNone) (h.take k);rw[ax]at this;omega
theorem KU(h t:List E)(k:Nat):(pz h t k).length<=O h+k:=by unfold pz oh rY;rw[ab,aB,aB];have h1:=cU (fun x:E=>(ku x.1 t).isNone) h;have b:=cU (fun x:E=>!decide (x∈h)) (t.take k);rw[ax]at b;omega
end Go.Proofs.YtkkfmkhbdoeglabGreatDoor
