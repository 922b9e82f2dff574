/- Lemmas of the proof. No condition. -/
import Derived.Deep.RegionHeld
import Derived.Deep.RegionLaw
import Derived.LoopIn
import Derived.OrdersHeld
import Derived.RegionTactic
import Derived.Shelf.Abstract
import Derived.TacticsInMore
import Derived.Test.YtkkfmkhbdoeglabGreatDoorV04
import Derived.Test.YtkkfmkhbdoeglabGreatDoorV05
set_option maxHeartbeats 4000000
set_option maxRecDepth 100000
namespace Go.Proofs.YtkkfmkhbdoeglabGreatDoor
open Go renaming World->Q0,Value->Q4,Calls->Rg,TypeId->Ri,Program->Rk
open Go.Ending renaming returned->Ra
open Go.IntKind renaming i64->Y,u8->Rf
open Go.Obj renaming cells->Q1
open Go.RowKit renaming Below->Q8
open Go.Value renaming int->I,pointer->Q5,slice->Q6,string->Q7,agg->Q9,tuple->Rc,bool->Rh,ownBlock->Rl
open Go.World renaming heap->Q,cell?->Rn,alloc->Ro,setCell->Rp
open List renaming length->O,toArray->Rm
open Option renaming none->J,some->N
open _root_.Array renaming size->G
open Go.Proofs.Tryz
variable{C:Array Q4}{F F' S:Nat->Prop}{X:Prop}{a:Act}{at' base cap fuel gs h i k n r s:Nat}{b d:Exit->Act->Q0->Prop}{data:gw}{e:Ri}{j:List K}{last:Oper}{listed:Array Bool}{os:List kv}{ps:List jD}{rest:List Oper}{rows:List gw}{u v:Q4}{vals:List Q4}{w w' w1:Q0}
def ig{α:Type}(b:Nat->Bool):Nat->List (α×Nat)->List α->List α
 | _,[],d=>d
 | k,(p,n)::l,d=>ig b (k+1) l (if b k then d.set n p else d)
theorem xn{α β:Type}(f:α->β)(b:Nat->Bool):∀(k:Nat) (l:List (α×Nat)) (d:List α),(ig b k l d).map f=ig b k (l.map fun x=>(f x.1,x.2)) (d.map f)
 | _,[],d=>rfl
 | k,(p,n)::l,d=>by
  rw[bG];unfold ig;rw[xn f b (k+1) l];congr 1;split
  .rw[dy]
  .rfl
theorem nB{α:Type}(b:Nat->Bool):∀(k:Nat) (l:List (α×Nat)) (d:List α),(ig b k l d).length=O d
 | _,[],d=>rfl
 | k,(p,n)::l,d=>by
  unfold ig;rw[nB b (k+1) l];split
  .rw[cA]
  .rfl
theorem q8{α:Type}(b:Nat->Bool):∀(k:Nat) (i:List α) (at':Nat) (d:List α),at'+O i<=O d->∀j,(ig b k (i.zipIdx at') d)[j]?=if at'<=j/\j<at'+O i/\b (k+(j-at'))=true then i[j-at']? else d[j]?
 | k,[],at',d,_,j=>by rw[af (by simp;omega)];rfl
 | k,q::i,at',d,h,j=>by
  rw[List.zipIdx_cons];unfold ig;rw[ao]at h;rw[q8 b (k+1) i (at'+1) _ (by split<;>(try rw[cA])<;>omega) j];by_cases x:j=at'
  .subst x;rw[af (by omega),ee,cL];by_cases o:b k=true
   .rw[aw o,aw ⟨aq _,by rw[ao];omega,o⟩,eF (by omega)];rfl
   .rw[af o,af (fun h=>o h.2.2)]
  .have s:(if b k=true then d.set at' q else d)[j]?=d[j]?:=by
    split
    .rw[eL (by omega)]
    .rfl
   rw[s];by_cases B:j<at'
   .rw[af (by omega),af (by omega)]
   .obtain⟨m,rfl⟩:∃m,j=at'+1+m:=⟨j-(at'+1),by omega⟩;rw[show at'+1+m-(at'+1)=m by omega,show at'+1+m-at'=m+1 by omega,show k+1+m=k+(m+1) by omega,aX,ao]
    have l:(at'+1<=at'+1+m/\at'+1+m<at'+1+O i/\b (k+(m+1))=true)↔(at'<=at'+1+m/\at'+1+m<at'+(O i+1)/\b (k+(m+1))=true):=
     ⟨fun⟨h1,y,u⟩=>⟨by omega,by omega,u⟩,fun⟨h1,y,u⟩=>⟨by omega,by omega,u⟩⟩
    by_cases r:at'+1<=at'+1+m/\at'+1+m<at'+1+O i/\b (k+(m+1))=true
    .rw[aw r,aw (l.1 r)]
    .rw[af r,af fun h=>r (l.2 h)]
theorem GD{d:List jD}{m:Nat}(b:Nat->Bool)(h:at'+O ps<=O d):qU d (ig b 0 ((ps.take m).zipIdx at') d) at' ps:=by
 have hl:(ps.take m).length<=O ps:=by rw[ax];omega
 refine⟨nB _ _ _ _,fun j=>?_⟩;rw[q8 b 0 (ps.take m) at' d (by omega) j];split
 .rename_i hc;refine .inr ⟨hc.1,by omega,?_⟩;have:=hc.2.1;rw[ax]at this;rw[bF (by omega)]
 .exact .inl rfl
theorem IJ{d:List jD}(h:at'+O ps<=O d):pd (ig (fun _=>true) 0 (ps.zipIdx at') d) at' ps:=by intro i b;rw[q8 _ 0 ps at' d h (at'+i),aw ⟨by omega,by omega,rfl⟩,Nat.add_sub_cancel_left]
def gN(b:gw):jD:=⟨j6 (b.take 8),(b.getD 8 0).toNat,(b.getD 9 0).toNat,decide ((b.getD 10 0).toNat<=53),(b.drop 11).take (b.getD 10 0).toNat⟩
def mz(s i n:Nat)(c:gw):gw:=nC s++[UInt8.ofNat i,UInt8.ofNat n,UInt8.ofNat (O c)]++c
def mL(b:gw):gw:=b++List.replicate (64-(O b)) 0
theorem uE(s i n:Nat)(c:gw):(mz s i n c).length=11+O c:=by unfold mz;rw[ab,ab,iB];rfl
theorem qx{b:gw}(h:O b<=64):(mL b).length=64:=by unfold mL;rw[ab,bV];omega
theorem DM{c:gw}(m:s<18446744073709551616)(r:i<256)(u:n<256)(hc:O c<=53):gN (mL (mz s i n c))=⟨s,i,n,true,c⟩:=by
 obtain⟨b,d⟩:∃b,b=List.replicate (64-(mz s i n c).length) (0:UInt8):=⟨_,rfl⟩;have e:mL (mz s i n c)=nC s++(UInt8.ofNat i::UInt8.ofNat n::UInt8.ofNat (O c)::(c++b)):=by unfold mL;rw[<-d];unfold mz;simp
 have x:=iB s;have g:∀j,(nC s++(UInt8.ofNat i::UInt8.ofNat n::UInt8.ofNat (O c)::(c++b))).getD (8+j) 0=(UInt8.ofNat i::UInt8.ofNat n::UInt8.ofNat (O c)::(c++b)).getD j 0:=fun j=>by rw[aD,cT (by omega),show 8+j-(nC s).length=j by omega,<-aD]
 have g0:=g 0;have g1:=g 1;have g2:=g 2;simp only[cL,Nat.reduceAdd,List.getD_cons_zero,List.getD_cons_succ]at g0 g1 g2;have l:(UInt8.ofNat (O c)).toNat=O c:=by simp;omega
 unfold gN;rw[e,g0,g1,g2,eX (by omega),aW (by omega),GH s m,l];have o:(nC s++(UInt8.ofNat i::UInt8.ofNat n::UInt8.ofNat (O c)::(c++b))).drop 11=c++b:=by rw[List.drop_append,gd (by omega),show 11-(nC s).length=3 by omega];rfl
 rw[o,eX (by omega),aW (by omega)];have h1:(UInt8.ofNat i).toNat=i:=by simp;omega
 have q:(UInt8.ofNat n).toNat=n:=by simp;omega
 rw[h1,q];simp[hc]
def iw(len:Nat):Nat:=(len+52) / 53
def mJ(data:gw)(i:Nat):gw:=(data.drop (53*i)).take 53
def iH(s:Nat)(data:gw):List gw:=(List.range (iw (O data))).map fun i=>mL (mz s i (iw (O data)) (mJ data i))
theorem lP(s:Nat)(data:gw):(iH s data).length=iw (O data):=by simp[iH]
theorem tN(data:gw)(i:Nat):(mJ data i).length<=53:=by unfold mJ;rw[ax];omega
theorem za(data:gw):∀n,(List.range n).flatMap (mJ data)=data.take (53*n)
 | 0=>by simp
 | n+1=>by rw[List.range_succ,eO,za data n,dF,List.flatMap_nil,cX];unfold mJ;rw[show 53*(n+1)=53*n+53 by omega,List.take_add]
theorem Jg(l:s<18446744073709551616)(o:0<O data)(m:iw (O data)<256):sR s ((iH s data).map gN) data:=by
 have j:∀i,i<iw (O data)->((iH s data).map gN)[i]?=N ⟨s,i,iw (O data),true,mJ data i⟩:=fun i d=>by unfold iH;rw[gh,bg,List.getElem?_range d];show N (gN _)=_;rw[DM l (by omega) m (tN _ _)]
 have b:((iH s data).map gN).length=iw (O data):=by rw[aB,lP]
 refine⟨by rw[b];unfold iw;omega,fun i p h=>?_,?_⟩
 .have d:=(aH.1 h).1;rw[b]at d;rw[j i d]at h;cases h;exact⟨rfl,rfl,b.symm,rfl⟩
 .have e:((iH s data).map gN).flatMap (·.data)=(List.range (iw (O data))).flatMap (mJ data):=by
   rw[Bd,b];refine pP fun i d=>?_;rw[aD,j i (dC.1 d)];rfl
  rw[e,za,aW];unfold iw;omega
def ik(n:Nat):Nat:=(16*(n-8)+62) / 53
theorem mg(h1:32<=n)(b:n<=128):8<=ik n/\ik n<=37/\2*ik n+16<=n:=by unfold ik;omega
theorem qG{len:Nat}(h:len<=10+16*(n-8)):iw len<=ik n:=by unfold iw ik;omega
def kI(d:List gw)(s:Nat):Prop:=∀b∈d,(gN b).gF<=s
theorem kI.rU{d:List gw}(h:kI d s):∀b∈d.map gN,b.gF<s+1:=by intro b i;obtain⟨x,j,rfl⟩:=aA.1 i;have:=h x j;omega
theorem kI.apply{d:List gw}(h:kI d s)(q:s+1<18446744073709551616)(r:iw (O data)<256)(o:Nat->Bool)(m at':Nat)(hl:at'+iw (O data)<=O d):kI (ig o 0 (((iH (s+1) data).take m).zipIdx at') d) (s+1):=by
 intro b u;obtain⟨j,l⟩:=List.mem_iff_getElem?.1 u;have x:((iH (s+1) data).take m).length<=iw (O data):=by rw[ax,lP];omega
 rw[q8 o 0 _ at' d (by omega) j]at l;split at l
 .have hm:=eC (be l);unfold iH at hm;obtain⟨i,y,rfl⟩:=aA.1 hm;have:=dC.1 y;rw[DM q (by omega) r (tN _ _)];exact aq _
 .have:=h b (be l);omega
def kL:gw:=List.replicate 64 0
theorem BD:(gN kL).gF=0:=by decide
theorem N9{T d:Type}(decS:gw->Option (Nat×T))(decD:gw->Option (Nat×d))(app:T->d->T)(t0:T)(n p:Nat):j9 decS decD app t0 ((List.replicate n kL).map gN) p 0 0 t0 (2*p):=by
 have o:∀b∈(List.replicate n kL).map gN,b.gF=0:=fun b l=>by obtain⟨x,q,rfl⟩:=aA.1 l;rw[(List.mem_replicate.1 q).2];exact BD
 have j:∀m i x,¬je (((List.replicate n kL).map gN).take m) i x:=fun m i x h=>by obtain⟨b,l,e⟩:=h.vO;obtain⟨k,-,r,-⟩:=h;exact r (by rw[<-e];exact o b (eC l))
 refine⟨0,0,t0,[],0,.inl ⟨rfl,rfl,rfl,rfl,fun s x _=>j _ _ x⟩,.nil _ _ _ _,fun i x _ h=>?_⟩;have:=j n i x;rw[aW (by simp)]at this;exact absurd h this
structure gA where
 held:List gw
 gG:List gw
 gX:List (gw×Nat)
 fail:Int
 il:Int
 dp:jz
variable{H H':gA}
def gA.jy(H:gA):gA:={H with fail:=if H.fail<0 then H.fail else H.fail-1}
def gA.jM(H:gA):Bool:=decide (H.fail=0)
def gA.read(H:gA)(n:Nat):gA×Option gw:=(H.jy,if H.jM then J else H.gG[n]?)
def gA.write(H:gA)(n:Nat)(s:gw):gA×Option Nat:=
 if H.jM then(H.jy,N (n+2))
 else({H.jy with il:=H.il+1,gG:=H.gG.set n s,dp:=H.dp.stop,gX:=if H.dp.stop.ir then H.gX else H.gX++[(s,n)]},J)
def gA.jY(H:gA):gA×Option Nat:=
 if H.jM then(H.jy,N 1)
 else if H.dp.stop.ir then({H.jy with dp:=H.dp.stop},J)
 else({H.jy with dp:=H.dp.stop,held:=ig (fun _=>true) 0 H.gX H.held,gX:=[]},J)
def jc:List gw->gA->Nat->gA×Option Nat
 | [],H,_=>(H,none)
 | s::l,H,at'=>match H.write at' s with
  | (H1,some f)=>(H1,some f)
  | (H1,none)=>jc l H1 (at'+1)
open Go.RowKit
def gQ(w:Q0)(v:Q4)(e:Ri):Prop:=∀b,Rl v=N b->∃C d,w.heap[b]?=N (Q1 C e d)
theorem wB(g:Nat):∀(i:List Q4) (o:Nat) (w:Q0) {C:Array Q4} {e:Ri} {b:Nat×Nat},w.heap[g]?=N (Q1 C e b)->∃d,(w.setCells g o i).heap[g]?=N (Q1 d e b)
 | [],_,_,C,_,_,h=>⟨C,h⟩
 | v::i,o,w,C,e,b,h=>by
  simp only[World.setCells];have h1:∃d,(Rp w ⟨g,o,J⟩ v).heap[g]?=N (Q1 d e b):=by obtain⟨j,hk⟩:=cx.1 h;have l:(Rp w ⟨g,o,J⟩ v).heap[g]?=N ((Rp w ⟨g,o,J⟩ v).heap[g]'(by rw[QO];exact j)):=cM _;rw[l];simp only[World.setCell,Array.getElem_modify_self,hk];exact⟨_,rfl⟩
  obtain⟨d,h1⟩:=h1;exact wB g i (o+1) _ h1
theorem mc{P:Rk}(w:Q0)(base:Nat)(t D ty e:Ri)(i:TypeInfo)(z:Q4)(R:P.underlying t=N (.slice e))(S:P.info? e=N i)(hz:i.zero=N z)(am:z.cells.size=i.size)(ap:0<i.size)(v:Q4)(n:Nat)(s:List Q4)(E:gS w base i.size v n s)(hT:gQ w v e)(x:Q4)(m:Nat)(d:List Q4)(q:Src P i.size D x m d w)(av:n+m<=maxLen)(r:(n+m)*i.bytes<=140737488355328)(U:base<=G (Q w)):
  ∃v' w',(Builtin.append_ #[t,D] ty #[v,x]).run P w=.ok v' w'/\gS w' base i.size v' (n+m) (s++d)/\w.grownBy w' (Rl v)/\gQ w' v' e:=by
 have hmx:maxLen=9223372036854775807:=rfl;obtain⟨v',w',V,h1,h2,h3⟩:=my (P:=P) w base t D ty e i z R S hz am ap v n s E x m d q av r U;refine⟨v',w',V,h1,h2,?_⟩;rcases h3 with ⟨g,off,cap,rfl,rfl,rfl⟩|rfl|⟨cap',rfl,-⟩
 .intro b F;obtain rfl:g=b:=by simpa [Value.ownBlock]using F
  obtain⟨C,fz,hC⟩:=hT g rfl;obtain⟨C',aE⟩:=wB g d (off+n*i.size) w hC;exact⟨C',fz,aE⟩
 .intro b F;simp[Value.ownBlock]at F
 .have key:∀(o:Option Addr) (iI:Nat),v=Q6 o n iI->iI<n+m->(Builtin.firstCells i.size n (Q6 o n iI)).run P w.drew=.ok (Rm s) w.drew->gQ w' (Q6 (N ⟨G (Q w),0,J⟩) (n+m) cap') e:=by
   intro o iI Z ho hf;subst Z;have M:=run_append_grow_src (P:=P) w t D ty e i z R S hz o n iI s hf x m d q ho (by omega) (growslice_fits ho r);have l:=V.symm.trans M;injection l with _ l;subst l;intro b F;obtain rfl:G (Q w)=b:=by simpa [Value.ownBlock]using F
   exact⟨_,_,gB w.drew _⟩
  obtain⟨X,⟨rfl,rfl⟩|⟨g,off,cap,rfl,ba,bb,bc,bi,W,y⟩⟩:=E
  .have hx:s=[]:=ch (by simpa using X);subst hx;by_cases hm:m=0
   .subst hm;have hn:d=[]:=ch (by simpa using q.newsLen);subst hn;have hl:=q.len w;have hc:=q.cells;have ag:(Builtin.append_ #[t,D] ty #[Q6 J 0 0,x]).run P w=.ok (Q6 J 0 0) w:=by rcases q.kind with ⟨e',hk⟩|hk<;>simp[Builtin.append_,aO R,aO hk,sizeOf,typeInfo,S,hl,hc]
    have l:=V.symm.trans ag;cases l
   .exact key J 0 rfl (by omega) (fI w.drew i.size 0 0 0)
  .by_cases B:n+m<=cap
   .have bk:n*i.size+O d<=cap*i.size:=by rw[q.newsLen,<-Nat.add_mul];exact cQ _ B
    have hc:∀j,j<O d->(Rn w ⟨g,off+n*i.size+j,J⟩).isSome=true:=fun j hj=>by have:=(y (n*i.size+j) (by omega)).1;rw[bT];exact this
    have hf:∀j,j<O d->w.frozen? ⟨g,off+n*i.size+j,J⟩=false:=fun j hj=>by have:=(y (n*i.size+j) (by omega)).2;rw[bT];exact this
    have M:=run_append_room_src (P:=P) w t D ty e i R S g off n cap x m d q B hc hf;have l:=V.symm.trans M;injection l with l _;injection l with l _;injection l with l;injection l with l;omega
   .refine key (N ⟨g,off,J⟩) cap rfl (by omega) (run_firstCells_some w.drew i.size n ⟨g,off,J⟩ n cap s X (fun j u hu=>?_));obtain⟨hj,Z⟩:=aH.1 hu;rw[<-Z];rw[fC];exact W j hj
theorem uw{P:Rk}{iS:Array Oper}{o:Oper}(y:o.guard=J)(s x:Operand)(t q:Ri)(E:o.op=.call {callee:=.builtin .append,args:=#[s,x],argTypes:=#[t,q]})(base k:Nat)(e:Ri)(i:TypeInfo)(z:Q4)(F:P.underlying t=N (.slice e))(M:P.info? e=N i)(R:i.zero=N z)(hk:i.size=k)(B:z.cells.size=i.size)(C:0<i.size)(v:Q4)(n:Nat)(r:List Q4)(S:a.eval s=v)(u:gS w base k v n r)(U:gQ w v e)(m:Nat)(d:List Q4)(V:Src P k q (a.eval x) m d w)(D:n+m<=maxLen)(j:(n+m)*i.bytes<=140737488355328)(l:base<=G (Q w))(h:∀v' w',gS w' base k v' (n+m) (r++d)->w.grownBy w' (Rl v)->gQ w' v' e->wpList P iS b rest (a.put o.dst v') w'):wpList P iS b (o::rest) a w:=by subst hk;obtain⟨v',w',W,h1,X,Z⟩:=mc (P:=P) w base t q o.type e i z F M R B C v n r u U (a.eval x) m d V D j l;refine eN y fun K hK=>?_;unfold Oper.wp execOp;simp only[E,resolve,invoke,builtin,cI,fF,cz,eH,bG,dM,S,W];exact hK _ _ (h v' w' h1 X Z)
theorem oV{F:Fence}(hF:∀f,F.fn f){nF:Nat}{P:Rk}{iS:Array Oper}{o:Oper}(y:o.guard=J)(s x:Operand)(t q:Ri)(B:o.op=.call {callee:=.builtin .append,args:=#[s,x],argTypes:=#[t,q]})(base k:Nat)(e:Ri)(i:TypeInfo)(z:Q4)(M:P.underlying t=N (.slice e))(R:P.info? e=N i)(S:i.zero=N z)(hk:i.size=k)(C:z.cells.size=i.size)(D:0<i.size)(v:Q4)(n:Nat)(r:List Q4)(U:a.eval s=v)(u:gS w base k v n r)(V:gQ w v e)(m:Nat)(d:List Q4)(W:Src P k q (a.eval x) m d w)(E:n+m<=maxLen)(j:(n+m)*i.bytes<=140737488355328)(l:base<=G (Q w))(h:∀v' w',gS w' base k v' (n+m) (r++d)->w.grownBy w' (Rl v)->gQ w' v' e->wpListIn F nF P iS b rest (a.put o.dst v') w'):wpListIn F nF P iS b (o::rest) a w:=by subst hk;obtain⟨v',w',X,h1,Z,h3⟩:=mc (P:=P) w base t q o.type e i z M R S C D v n r u V (a.eval x) m d W E j l;refine wpListIn_plain y fun K hK=>?_;unfold Oper.wpIn;refine⟨fun f _=>hF f,?_⟩;rw[Oper.semAt_eq _ _ _ (fun c hc=>by rw[B]at hc;cases hc)];unfold execOp;simp only[B,resolve,invoke,builtin,cI,fF,cz,eH,bG,dM,U,X];exact hK _ _ (h v' w' h1 Z h3)
theorem xh{P:Rk}{o:Oper}{K:Act->Q0->Prop}(s x:Operand)(t q:Ri)(D:o.op=.call {callee:=.builtin .append,args:=#[s,x],argTypes:=#[t,q]})(base k:Nat)(e:Ri)(i:TypeInfo)(z:Q4)(E:P.underlying t=N (.slice e))(F:P.info? e=N i)(M:i.zero=N z)(hk:i.size=k)(y:z.cells.size=i.size)(B:0<i.size)(v:Q4)(n:Nat)(r:List Q4)(R:a.eval s=v)(u:gS w base k v n r)(S:gQ w v e)(m:Nat)(d:List Q4)(U:Src P k q (a.eval x) m d w)(C:n+m<=maxLen)(j:(n+m)*i.bytes<=140737488355328)(l:base<=G (Q w))(h:∀v' w',gS w' base k v' (n+m) (r++d)->w.grownBy w' (Rl v)->gQ w' v' e->K (a.put o.dst v') w'):o.wp P a w K b:=by subst hk;obtain⟨v',w',V,h1,W,X⟩:=mc (P:=P) w base t q o.type e i z E F M y B v n r u S (a.eval x) m d U C j l;unfold Oper.wp execOp;simp only[D,resolve,invoke,builtin,cI,fF,cz,eH,bG,dM,R,V];exact h v' w' h1 W X
theorem gQ.alloc(h:gQ w v e)(o:Obj):gQ (Ro w o) v e:=fun b d=>by obtain⟨C,i,j⟩:=h b d;exact⟨C,i,gP w o j⟩
theorem gQ.nil(w:Q0)(e:Ri):gQ w (Q6 J 0 0) e:=fun b d=>by simp[Value.ownBlock]at d
theorem nV{iS:Array Oper}{o:Oper}(q:o.guard=J)(s x:Operand)(B:o.op=.call {callee:=.builtin .append,args:=#[s,x],argTypes:=#[112,112]})(base:Nat)(v:Q4)(n:Nat)(l:gw)(C:a.eval s=v)(i:gS w base 1 v n (l6 l))(D:gQ w v 5)(m:gw)(E:gI w (a.eval x) m)(F:n+O m<=140737488355328)(d:base<=G (Q w))(h:∀v' w',gS w' base 1 v' (n+O m) (l6 (l++m))->w.grownBy w' (Rl v)->gQ w' v' 5->Q8 base w w'->
    wpList prog iS b rest (a.put o.dst v') w'):wpList prog iS b (o::rest) a w:=by
 obtain⟨i0,M,r,j,u⟩:=dE wN;have hmx:maxLen=9223372036854775807:=rfl;refine uw q s x _ _ B base 1 5 i0 (I Rf 0) underlying112 M r j (by rw[j];rfl) (by omega) v n (l6 l) C i D (O m) (l6 m) (gE.src underlying112 E (sw m)) (by omega) (by rw[u];omega) d (fun v' w' h1 y R=>?_);rw[<-oC]at h1;exact h v' w' h1 y R (jF i y d)
theorem zw(base:Nat)(bv:Q4)(l:gw)(v:Nat)(w:Q0)(u:gS w base 1 bv (O l) (l6 l))(E:gQ w bv 5)(D:base<=G (Q w))(hl:O l<=im)(_hv:v<18446744073709551616):
  Rg prog 160 #[bv,I .u64 v] w fun e w'=>∃d,e=Ra d/\gS w' base 1 d (O l+8) (l6 (l++nC v))/\gQ w' d 5/\Q8 base w w':=by
 unfold im at hl;go_enter func160,ntmps160;go_wp2;go_loopw [0,6] (fun y i wr=>∃k:Nat,k<=8/\i=I Y k/\gS wr base 1 y (l++(nC v).take k).length (l6 (l++(nC v).take k))/\gQ wr y 5/\Q8 base w wr) (fun _ i _=>8-(intOf i).toNat)
 case atStart=>exact⟨0,by omega,rfl,by simpa using u,E,kz⟩
 case round=>
  obtain⟨k,hk,rfl,b,r,j⟩:=hrel;have s:=gj r;clear r;by_cases F:k<8
  .have x:((UInt8.ofNat (v / 2^(56-8*k))).toNat:Int)=(v:Int) / 2^(56-8*k)%256:=by simp
   have m:=ow wr (UInt8.ofNat (v / 2^(56-8*k)));rw[x]at m;have M:=j.size;have H:=gj (FL v k F);have U:=gj x;clear x;have R:(k:Int)<8:=by omega
   have S:(l++(nC v).take k).length<=140737488355100:=by rw[ab,ax,iB];omega
   go_wp2_with (at_builtin;refine nV rfl (.tmp 9) (.tmp 16) rfl base _ _ (l++(nC v).take k) rfl (b.below ((gJ wr).alloc gH _)) (s.o.alloc _) [UInt8.ofNat (v / 2^(56-8*k))] m (by simp only[ao,aI];omega) (by simp;omega) ?_;intro V w1 q _ B C);go_roundw
   case rel=>refine⟨k+1,by omega,by go_num,?_,B,(j.alloc (by omega) _).trans C⟩;rw[H.o,<-bJ];rw[ab];exact q
   case measure=>simp[intOf];omega
  .obtain rfl:k=8:=by omega
   rw[aW (by rw[iB];omega)]at b;go_wp2;go_ret;refine⟨_,rfl,?_,s.o,j⟩;rw[ab,iB]at b;exact b
theorem pa{iS:Array Oper}{o:Oper}{K:Act->Q0->Prop}{E:Prop}(q:o.guard=J)(s x:Operand)(B:o.op=.call {callee:=.builtin .append,args:=#[s,x],argTypes:=#[112,112]})(base:Nat)(v:Q4)(n:Nat)(l:gw)(C:a.eval s=v)(i:gS w base 1 v n (l6 l))(D:gQ w v 5)(m:gw)(F:gI w (a.eval x) m)(M:n+O m<=140737488355328)(d:base<=G (Q w))(h:∀v' w',gS w' base 1 v' (n+O m) (l6 (l++m))->w.grownBy w' (Rl v)->gQ w' v' 5->Q8 base w w'->
    K (a.put o.dst v') w'):if Region.wanted o (yielded iS a.tmps)=true then Oper.wp prog o a w K b else E:=by
 have R:Region.wanted o (yielded iS a.tmps)=true:=by simp[Region.wanted,q]
 rw[aw R];obtain⟨i0,S,r,j,u⟩:=dE wN;have hmx:maxLen=9223372036854775807:=rfl;refine xh s x _ _ B base 1 5 i0 (I Rf 0) underlying112 S r j (by rw[j];rfl) (by omega) v n (l6 l) C i D (O m) (l6 m) (gE.src underlying112 F (sw m)) (by omega) (by rw[u];omega) d (fun v' w' h1 y U=>?_);rw[<-oC]at h1;exact h v' w' h1 y U (jF i y d)
structure HV where
 held:Q4
 gG:Q4
 gX:Q4
 left:Int
 fail:Int
 ir:Bool
 il:Int
 r0:Int
 r1:Int
 r2:Int
 r:Nat
 iF:Q4
variable{x x':HV}
def HV.cells(x:HV):Array Q4:=#[x.held,x.gG,x.gX,I Y x.left,I Y x.fail,Rh x.ir,I Y x.il,I Y x.r0,I Y x.r1,I Y x.r2,.map (N x.r),x.iF]
def iQ(w:Q0)(h:Nat)(x:HV):Prop:=w.heap[h]?=N (Q1 x.cells 125)
def HV.stop(x:HV):HV:={x with left:=if 0<x.left then x.left-1 else x.left,ir:=x.ir || decide (x.left=0)}
def HV.room(x:HV):Nat->Int
 | 0=>x.r0
 | 1=>x.r1
 | _=>x.r2
theorem iQ.iI(b:iQ w h x)(d:w'.heap[h]?=w.heap[h]?):iQ w' h x:=d.trans b
theorem iQ.lt(b:iQ w h x):h<G (Q w):=gm b
def jr(l:List gw):List Q4:=l.map fun s=>Q7 ⟨Rm s⟩
theorem ny(l m:List gw):jr (l++m)=jr l++jr m:=bj
theorem mQ(l:List gw):(jr l).length=O l:=aB _
structure xj(w:Q0)(base h:Nat)(x:HV)(d:jz):Prop where
 row:iQ w h x
 left:x.left=d.left
 ir:x.ir=d.ir
 room:x.room=d.room
 jh:iE w x.r d.S
 own:gS w base 1 x.iF (O d.iF) (jr d.iF)
 qN:gQ w x.iF 9
 lo:base<=h/\base<=x.r
 lb:-1<=d.left/\d.left<=9223372036854775807
theorem sp(h:Nat)(x:HV)(w:Q0)(m:iQ w h x)(lo:-1<=x.left)(C:x.left<=9223372036854775807):
  Rg prog 101 #[Q5 (N ⟨h,0,J⟩)] w fun e w'=>e=Ra (Rh x.stop.ir)/\iQ w' h x.stop/\G (Q w')=G (Q w)/\gR (fun i=>i=h) w w':=by
 obtain⟨s,a1,a2,n,y,b,wr,r0,r1,r2,r,lv⟩:=x;unfold HV.stop;unfold iQ HV.cells at m;simp only at lo C m⊢;have F:=gj m;have c3:=gr 3 m;have c5:=gr 5 m;have f3:=gD 3 m;have f5:=gD 5 m;have E:=gm m
 have q:∀v:Q4,gy ((Rp w ⟨h,5,J⟩ v).heap[h]?=N (Q1 #[s,a1,a2,I Y n,I Y y,v,I Y wr,I Y r0,I Y r1,I Y r2,.map (N r),lv] 125)/\(Rp w ⟨h,5,J⟩ v).heap.size=G (Q w)/\gR (fun i=>i=h) w (Rp w ⟨h,5,J⟩ v)):=
  fun v=>gj ⟨QN _ _ 5 v m,QO _ _ _,(gR.refl _ w).setCell _ _ (.inl rfl)⟩
 have B:∀v u:Q4,gy (((Rp w ⟨h,5,J⟩ v).setCell ⟨h,3,J⟩ u).heap[h]?=N (Q1 #[s,a1,a2,u,I Y y,v,I Y wr,I Y r0,I Y r1,I Y r2,.map (N r),lv] 125)/\((Rp w ⟨h,5,J⟩ v).setCell ⟨h,3,J⟩ u).heap.size=G (Q w)/\gR (fun i=>i=h) w ((Rp w ⟨h,5,J⟩ v).setCell ⟨h,3,J⟩ u)):=
  fun v u=>gj ⟨QN _ _ 3 u (q v).out.1,(QO _ _ _).trans (q v).out.2.1,(q v).out.2.2.setCell _ _ (.inl rfl)⟩
 clear m;go_enter func101,ntmps101;cases b with
 | true=>
  rcases dY n 0 with o|o|o
  .rw[af (by omega)];go_wp2;go_ret;obtain⟨d,j,l⟩:=(q (Rh true)).out;exact⟨rfl,d,j,l⟩
  .subst o;go_wp2;go_ret;obtain⟨d,j,l⟩:=(q (Rh true)).out;exact⟨rfl,d,j,l⟩
  .rw[aw o];go_wp2;go_ret;obtain⟨d,j,l⟩:=(B (Rh true) (I Y (n-1))).out;exact⟨rfl,d,j,l⟩
 | false=>
  rcases dY n 0 with o|o|o
  .have e:decide (n=0)=false:=by simp;omega
   have D:(n==0)=false:=by simp;omega
   rw[af (by omega),e];go_wp2;go_ret;obtain⟨d,j,l⟩:=(q (Rh false)).out;exact⟨rfl,d,j,l⟩
  .subst o;go_wp2;go_ret;obtain⟨d,j,l⟩:=(q (Rh true)).out;exact⟨rfl,d,j,l⟩
  .have e:decide (n=0)=false:=by simp;omega
   have D:(n==0)=false:=by simp;omega
   rw[aw o,e];go_wp2;go_ret;obtain⟨d,j,l⟩:=(B (Rh false) (I Y (n-1))).out;exact⟨rfl,d,j,l⟩
theorem G6(h:Nat)(x:HV)(t:Int)(w:Q0)(j:iQ w h x):
  Rg prog 103 #[Q9 #[Q5 (N ⟨h,0,J⟩)],I Y t] w fun e w'=>e=Ra (I Y (if 0<=t/\t<3 then x.room t.toNat else 0))/\Q8 (G (Q w)) w w':=by
 have b:Q8 (G (Q w)) w (Ro w (Q1 #[Q5 (N ⟨h,0,J⟩)] 116)):=(gJ w).alloc gH _;have l:=gB w (Q1 #[Q5 (N ⟨h,0,J⟩)] 116);have rc:=gr 0 l;have m:=gm j;have d:=j.iI (b.block h m);unfold iQ HV.cells at d;have q:=gr 7 d;have r:=gr 8 d;have s:=gr 9 d;have i:=gj b;clear j d l b;go_enter func103,ntmps103;by_cases u:t<0
 .rw[af (by omega)];go_wp2;go_ret;exact⟨rfl,i.o⟩
 .by_cases y:3<=t
  .rw[af (by omega)];go_wp2;go_ret;exact⟨rfl,i.o⟩
  .rw[aw (by omega)];obtain rfl|rfl|rfl:t=0\/t=1\/t=2:=by omega
   .go_wp2;go_ret;exact⟨rfl,i.o⟩
   .go_wp2;go_ret;exact⟨rfl,i.o⟩
   .go_wp2;go_ret;exact⟨rfl,i.o⟩
theorem FT(h:Nat)(x:HV)(S:List E)(t:Int)(w:Q0)(hh:iQ w h x)(q:iE w x.r S)(hl:O S<=1000000000):
  Rg prog 102 #[Q9 #[Q5 (N ⟨h,0,J⟩)],I Y t] w fun e w'=>e=Ra (I Y (iq t S:Nat))/\Q8 (G (Q w)) w w':=by
 obtain⟨r,hr⟩:∃r,r=x.r:=⟨_,rfl⟩;have C:Q8 (G (Q w)) w (Ro w (Q1 #[Q5 (N ⟨h,0,J⟩)] 116)):=(gJ w).alloc gH _;have R0:=gB w (Q1 #[Q5 (N ⟨h,0,J⟩)] 116);have rc:=gr 0 R0;have a0:=gm hh;have H0:=hh.iI (C.block h a0);unfold iQ HV.cells at H0;have X:=gr 10 H0;simp only[bU,aX,aY]at X;rw[<-hr]at X q;have bi:=q.lt;obtain⟨Z,L,am,hp⟩:=q.iI (C.block r q.lt);have HP:=gj hp;have HN:=gj Z.nodup;have a2:(Ro w (Q1 #[Q5 (N ⟨h,0,J⟩)] 116)).heap.size=G (Q w)+1:=by simp
 clear Z hp q hh H0 R0 hr;go_enter func102,ntmps102;go_wp2_with (first|(refine nE rfl _ rfl underlying123 rfl am ?_;intro w1 D a3 bk)|fail);rw[a2]at D⊢
 try go_frame
 go_loopw [5] (fun n wr=>∃l:List E,iJ wr r (G (Q w)+1) L (l.map zS)/\n=I Y (iq t l:Nat)/\Q8 (G (Q w)) w wr) (fun _ wr=>wr.rangeLeft r (G (Q w)+1))
 case atStart=>exact⟨[],D,rfl,C.trans (a3.mono (by omega))⟩
 case round=>
  obtain⟨l,d,rfl,u⟩:=hrel;go_wp2_with (first|(refine oD rfl _ rfl rfl d ?_ ?_)|fail)
  .intro a4;have a5:=gj (zd t (vL (ot d.sub.2.2) HN.o (a4.trans HP.o)));go_wp2;go_ret;exact⟨by rw[a5.o];rfl,u⟩
  .intro m kb v w2 hx a7 F a8 bl a9 bn;obtain⟨⟨k',W⟩,ba,e⟩:=aA.1 (HP.o.mem_iff.1 hx);cases e;have M:iJ w2 r (G (Q w)+1) L ((l++[((m,kb),W)]).map zS):=by rw[bj];exact F
   have bo:iq t l<=1000000000:=by have h1:iq t l<=O l:=List.countP_le_length;have h2:O l<=O S:=wQ (ot d.sub.2.2) (fun y hy=>yK (HP.o.mem_iff.1 (d.sub.1 _ (aA.2 ⟨y,hy,rfl⟩))));omega
   have aa:=gj (ze t l ((m,kb),W));have i:=gj M;have br:=u.size;have B:Q8 (G (Q w)) w w2:=u.grown a8 u.size (fun j e=>by cases e;exact dS _);have ag:=gj d;clear F M hx a7 ba d;unfold nW at a9;by_cases q:m=t
   .subst q;have R:gy (iq m (l++[((m,kb),W)])=iq m l+1):=gj (by rw[aa.o,aw rfl]);go_wp2;have b:Q8 (G (Q w2)) w2 (Ro w2 (Q1 #[I Y m,Q7 ⟨Rm kb⟩] 103)):=(gJ w2).alloc gH _;have s:=i.o.frame (b.block _ i.o.lt.1) (b.block _ i.o.lt.2);have U:=s.left;have V:=ag.o.left;simp only[aB,ab,ao,aI]at U V;exact⟨⟨_,s,by rw[R.o];rfl,B.trans (b.mono B.size)⟩,by omega⟩
   .have R:gy (iq t (l++[((m,kb),W)])=iq t l):=gj (by rw[aa.o,af q];rfl);go_wp2;have b:Q8 (G (Q w2)) w2 (Ro w2 (Q1 #[I Y m,Q7 ⟨Rm kb⟩] 103)):=(gJ w2).alloc gH _;have s:=i.o.frame (b.block _ i.o.lt.1) (b.block _ i.o.lt.2);have U:=s.left;have V:=ag.o.left;simp only[aB,ab,ao,aI]at U V;exact⟨⟨_,s,by rw[R.o],B.trans (b.mono B.size)⟩,by omega⟩
def iP(os:List kv):List Q4:=os.flatMap fun o=>[I Y o.kind,I Y o.table,Q7 ⟨Rm o.key⟩,Q7 ⟨Rm o.val⟩]
theorem oy(os:List kv):(iP os).length=O os*4:=by
 induction os with
 | nil=>rfl
 | cons o os ih=>simp only[iP,dF,ab,ao,aI]at ih⊢;omega
theorem rK(os us:List kv):iP (os++us)=iP os++iP us:=by simp[iP]
theorem wW:∀(os:List kv) (k:Nat) (h:k<O os),
  (iP os)[k*4]?=N (I Y os[k].kind)/\(iP os)[k*4+1]?=N (I Y os[k].table)/\(iP os)[k*4+2]?=N (Q7 ⟨os[k].key.toArray⟩)/\(iP os)[k*4+3]?=N (Q7 ⟨os[k].val.toArray⟩)
 | o::os,0,h=>⟨rfl,rfl,rfl,rfl⟩
 | o::os,k+1,h=>by
  have ih:=wW os k (by simpa using h);have e:∀j,(k+1)*4+j=4+(k*4+j):=fun j=>by omega
  have b:∀j,(iP (o::os))[4+j]?=(iP os)[j]?:=fun j=>by rw[Nat.add_comm];rfl
  refine⟨?_,?_,?_,?_⟩
  .have:=e 0;simp only[cL]at this;rw[this,b];exact ih.1
  .rw[e,b];exact ih.2.1
  .rw[e,b];exact ih.2.2.1
  .rw[e,b];exact ih.2.2.2
def jE(w:Q0)(v:Q4)(os:List kv):Prop:=gE w v 4 (O os) (iP os)
theorem jE.gU(h:jE w v os):
  ∃a cap,v=Q6 a (O os) cap/\O os<=cap/\∀k (h:k<O os),∃b off,a=N ⟨b,off,J⟩/\Rn w ⟨b,off+k*4,J⟩=N (I Y os[k].kind)/\Rn w ⟨b,off+k*4+1,J⟩=N (I Y os[k].table)/\Rn w ⟨b,off+k*4+2,J⟩=N (Q7 ⟨os[k].key.toArray⟩)/\Rn w ⟨b,off+k*4+3,J⟩=N (Q7 ⟨os[k].val.toArray⟩):=by
 obtain⟨_,a,cap,rfl,hc,d⟩:=h;refine⟨a,cap,rfl,hc,fun k hk=>?_⟩;have hl:=oy os;obtain⟨i,h1,j,l⟩:=wW os k hk;obtain⟨b,off,rfl,c0⟩:=d (k*4) (by omega);obtain⟨r,s,m,c1⟩:=d (k*4+1) (by omega);cases m;obtain⟨b2,u,o,c2⟩:=d (k*4+2) (by omega);cases o;obtain⟨x,y,q,c3⟩:=d (k*4+3) (by omega);cases q;rw[ah (by omega)]at i h1 j l;refine⟨b,off,rfl,?_,?_,?_,?_⟩
 .rw[c0,i]
 .rw[bT,c1,h1]
 .rw[bT,c2,j]
 .rw[bT,c3,l]
theorem jE.below(h:jE w v os)(b:Q8 (G (Q w)) w w'):jE w' v os:=gE.below h b
def JW(w:Q0)(base:Nat)(v:Q4)(f:Option (Nat×Nat)):Prop:=∃fp,v=Q5 fp/\Ar w base fp f
theorem JW.new{W:Q0}{r:Q4}(w:Q0)(base:Nat)(b d:Int)(k n:Nat)(hk:b=k)(i:d=n)(g:Nat)(j:g=G (Q w))(h:base<=g)(l:r=Q5 (N ⟨g,0,J⟩))(m:W=Ro w (Q1 #[I Y b,I Y d,.nilIface] 186)):
  JW W base r (N (k,n)):=by
 subst hk i l m j;exact⟨_,rfl,G (Q w),rfl,h,gB _ _⟩
def uJ(os:List kv):Prop:=∀o∈os,O o.key<=im/\O o.val<=im
def iY(os:List kv):List K:=os.map fun o=>(o.table,o.key)
theorem zq(os:List kv)(k:Nat)(h:k<O os):iY (os.take (k+1))=iY (os.take k)++[(os[k].table,os[k].key)]:=by unfold iY;rw[aC h,bj];rfl
theorem Co(os:List kv)(k:Nat)(h:k<O os):jA k (iY (os.take k)) (os.drop k) =
  if iZ os[k] (iY (os.take k))=0 then jA (k+1) (iY (os.take (k+1))) (os.drop (k+1))else N (iZ os[k] (iY (os.take k)),k):=by
 rw[cD h,zq os k h];rfl
theorem zy{b T:Int}{d i:gw}(h:¬(b<1\/2<b\/T<0\/2<T))(h1:js T d=false):iZ ⟨b,T,d,i⟩ j=7:=by unfold iZ;rw[af h,aw h1]
theorem wm{b T:Int}{d j:gw}{i:List K}(h:¬(b<1\/2<b\/T<0\/2<T))(h1:js T d=true)(l:i.contains (T,d)=true):iZ ⟨b,T,d,j⟩ i=8:=by unfold iZ;rw[af h,h1,af (by decide),aw l]
theorem zz{b T:Int}{d i:gw}(h:¬(b<1\/2<b\/T<0\/2<T))(h1:js T d=true)(l:j.contains (T,d)=false)(m:yg ⟨b,T,d,i⟩=false):iZ ⟨b,T,d,i⟩ j=9:=by unfold iZ;rw[af h,h1,af (by decide),l,af (by decide),aw m]
theorem kg.iI{b:List K}(h:kg w r b)(d:w'.heap[r]?=w.heap[r]?):kg w' r b:=ix.iI h d
theorem MZ:(prog.info? 105).map (fun i=>(i.zero,i.size,i.bytes))=N (N (Q9 #[I Y 0,I Y 0,Q7 ⟨#[]⟩,Q7 ⟨#[]⟩]),4,48):=by kernel_rfl
theorem GK(os:List kv):∀u∈iP os,u.oneCell'=true:=by intro u b;unfold iP at b;rw[List.mem_flatMap]at b;obtain⟨o,_,b⟩:=b;simp only[aZ,eU,or_false]at b;rcases b with rfl|rfl|rfl|rfl<;>rfl
theorem GI(w:Q0)(o:kv):jE (Ro w (Q1 #[I Y o.kind,I Y o.table,Q7 ⟨Rm o.key⟩,Q7 ⟨Rm o.val⟩] 105)) (Q6 (N ⟨G (Q w),0,J⟩) 1 1) [o]:=
 (gS.new w #[I Y o.kind,I Y o.table,Q7 ⟨Rm o.key⟩,Q7 ⟨Rm o.val⟩] 105 0 0 0 4 1 1 ux (by omega) (by decide) (by simp) (.inl (by omega))).sliceAt
theorem jE.src(h:jE w v os):Src prog 4 49 v (O os) (iP os) w:=gE.src underlying49 h (GK os)
theorem FF{v':Q4}{d:List Q4}(j:(∃g off cap,v=Q6 (N ⟨g,off,J⟩) n cap/\v'=Q6 (N ⟨g,off,J⟩) (n+k) cap/\w'=w.setCells g (off+n*4) d)\/v'=Q6 J 0 0\/∃cap,v'=Q6 (N ⟨G (Q w),0,J⟩) (n+k) cap/\Q8 (G (Q w)) w w'):
  ∀b,b<G (Q w)->Rl v≠N b->Rl v'≠N b:=by
 intro b l i;rcases j with ⟨g,off,cap,rfl,rfl,_⟩|rfl|⟨cap,rfl,_⟩
 .exact i
 .simp[Value.ownBlock]
 .simp[Value.ownBlock];omega
theorem zW{iS:Array Oper}{o:Oper}{K:Act->Q0->Prop}{E:Prop}(m:o.guard=J)(s x:Operand)(y:o.op=.call {callee:=.builtin .append,args:=#[s,x],argTypes:=#[49,49]})(base:Nat)(v:Q4)(os:List kv)(B:a.eval s=v)(j:gS w base 4 v (O os) (iP os))(us:List kv)(C:jE w (a.eval x) us)(D:O os+O us<=2932031007402)(i:base<=G (Q w))(h:∀v' w',gS w' base 4 v' (os++us).length (iP (os++us))->w.grownBy w' (Rl v)->Q8 base w w'->(∀b,b<G (Q w)->Rl v≠N b->Rl v'≠N b)->
    K (a.put o.dst v') w'):if Region.wanted o (yielded iS a.tmps)=true then Oper.wp prog o a w K d else E:=by
 have F:Region.wanted o (yielded iS a.tmps)=true:=by simp[Region.wanted,m]
 rw[aw F];obtain⟨i0,M,q,l,r⟩:=dE MZ;have hmx:maxLen=9223372036854775807:=rfl;refine sD s x _ _ y base 4 105 i0 _ underlying49 M q l (by rw[l];rfl) (by omega) v (O os) (iP os) B j (O us) (iP us) C.src (by omega) (by rw[r];omega) i (fun v' w' h1 u R=>?_);rw[<-rK,<-ab]at h1;exact h v' w' h1 u (jF j u i) (FF R)
theorem yj{iS:Array Oper}{o:Oper}(m:o.guard=J)(s x:Operand)(y:o.op=.call {callee:=.builtin .append,args:=#[s,x],argTypes:=#[49,49]})(base:Nat)(v:Q4)(os:List kv)(B:a.eval s=v)(j:gS w base 4 v (O os) (iP os))(us:List kv)(C:jE w (a.eval x) us)(D:O os+O us<=2932031007402)(i:base<=G (Q w))(h:∀v' w',gS w' base 4 v' (os++us).length (iP (os++us))->w.grownBy w' (Rl v)->Q8 base w w'->(∀b,b<G (Q w)->Rl v≠N b->Rl v'≠N b)->
    wpList prog iS d rest (a.put o.dst v') w'):wpList prog iS d (o::rest) a w:=by
 obtain⟨i0,E,q,l,r⟩:=dE MZ;have hmx:maxLen=9223372036854775807:=rfl;refine nO m s x _ _ y base 4 105 i0 _ underlying49 E q l (by rw[l];rfl) (by omega) v (O os) (iP os) B j (O us) (iP us) C.src (by omega) (by rw[r];omega) i (fun v' w' h1 u F=>?_);rw[<-rK,<-ab]at h1;exact h v' w' h1 u (jF j u i) (FF F)
theorem gS.shape{b:List Q4}(h:gS w base k v n b):∃a cap,v=Q6 a n cap:=by
 obtain⟨_,⟨rfl,rfl⟩|⟨g,off,cap,rfl,_⟩⟩:=h
 .exact⟨J,0,rfl⟩
 .exact⟨_,cap,rfl⟩
theorem gS.iS(h:gS w base 4 v (O os) (iP os)):jE w v os:=h.sliceAt
section
variable {P:Rk} {Qq:Exit->Act->Q0->Prop} {md:Region.Mode}
def M8(P:Rk)(o:Oper)(Qq:Exit->Act->Q0->Prop):Exit->Act->Q0->Prop
 | .normal,a,w=>o.wp P a w (Qq .normal) Qq
 | e,a,w=>Qq e a w
def Kg(md:Region.Mode)(iS:Array Oper)(n:Nat):Bool:=
 decide (iS.size=n+1)&&(List.range (n+1)).all fun i=>
  ((iS[i]?).map fun o=>o.guard.isNone&&(match o.op with | .select _ _=>false|_=>true)&&(o.after.all fun e=>!Region.binds md e || decide (e.on<i)) &&
    (decide (i=n) || (List.range (n+1)).any fun k=>decide (i<k)&&((iS[k]?).map fun o'=>o'.after.any fun e=>Region.binds md e&&(e.on==i)).getD false)).getD false
theorem Kh{iS:Array Oper}(h:Kg md iS n=true):iS.size=n+1/\∀i,i<=n->∃o,iS[i]?=N o/\o.guard=J/\(∀e∈o.after,Region.binds md e=true->e.on<i)/\(i=n\/∃k o',i<k/\k<=n/\iS[k]?=N o'/\∃e∈o'.after,Region.binds md e=true/\e.on=i):=by
 unfold Kg at h;rw[dQ,dI,eP]at h;refine⟨h.1,fun i x=>?_⟩;have b:=h.2 i (dC.2 (by omega));cases l:iS[i]? with
 | none=>rw[l]at b;cases b
 | some o=>
  rw[l]at b;simp only[et,bZ,dQ,dK,dI,Array.all_eq_true',List.any_eq_true,dC,fG,eK]at b;obtain⟨⟨⟨q,-⟩,r⟩,s⟩:=b;refine⟨o,rfl,q,fun e he u=>?_,?_⟩
  .rcases r e he with h|h
   .rw[u]at h;cases h
   .exact h
  .rcases s with h|⟨k,hk,m,d⟩
   .exact .inl h
   .right;cases j:iS[k]? with
    | none=>rw[j]at d;cases d
    | some o'=>rw[j]at d;simp only[et,bZ,Array.any_eq_true',dQ,aT]at d;exact⟨k,o',m,by omega,j,d⟩
theorem mq{iS:Array Oper}: i∈Region.ready md iS listed↔i<iS.size/\listed.getD i true=false/\∃o,iS[i]?=N o/\∀e∈o.after,Region.binds md e=true->listed.getD e.on false=true:=by
 unfold Region.ready;rw[cF,dC,dQ,eK];refine and_congr_right fun _=>and_congr_right fun _=>?_;cases b:iS[i]? with
 | none=>simp
 | some o=>simp only[et,bZ,Array.all_eq_true',dK,eK,dz,exists_eq_left'];refine forall_congr' fun e=>forall_congr' fun _=>?_;cases Region.binds md e<;>simp
def Fw(md:Region.Mode)(iS:Array Oper)(listed:Array Bool):Prop:=∀i o,iS[i]?=N o->listed.getD i false=true->∀e∈o.after,Region.binds md e=true->listed.getD e.on false=true
theorem getD_set_true(h:listed.getD k false=true):(listed.setIfInBounds i true).getD k false=true:=by
 rw[aU]at h⊢;by_cases e:i=k
 .subst e;rw[dm];split
  .rfl
  .rename_i b;rw[fW (by omega)]at h;cases h
 .rw[cC e];exact h
theorem Fw.set{iS:Array Oper}(h:Fw md iS listed)(q:i∈Region.ready md iS listed):Fw md iS (listed.setIfInBounds i true):=by
 obtain⟨h1,u,o,r,s⟩:=mq.1 q;intro j o' b d e he l;by_cases m:i=j
 .subst m;rw[r]at b;cases b;exact getD_set_true (s e he l)
 .refine getD_set_true (h j o' b ?_ e he l);rw[aU,cC m]at d;rw[aU];exact d
theorem Oper.Ho{o:Oper}{K:Act->Q0->Prop}(h:Oper.wp P o a w K (M8 P last Qq)):Oper.wp P o a w K Qq:=by
 unfold Oper.wp at *
 generalize (execOp a.eval o).run P w=r at *
 cases r with
 | ok n w'=>cases n<;>simp only[Oper.upon]at h⊢<;>first|exact h|exact Calls.mono h (fun e b he=>by cases e<;>exact he)
 | halt x w'=>cases x<;>simp only[Oper.upon]at h⊢<;>exact h
theorem JQ{iS:Array Oper}(hF:Kg md iS n=true)(hl:iS[n]?=N last):∀(f:Nat) (listed:Array Bool) (a:Act) (w:Q0),listed.size=n->Fw md iS (listed.push false)->
  wpAny P md (iS.extract 0 n) (M8 P last Qq) f listed a w->wpAny P md iS Qq (f+1) (listed.push false) a w:=by
 obtain⟨a5,x⟩:=Kh hF;have D:∀i,i<n->(iS.extract 0 n)[i]?=iS[i]?:=fun i l=>by rw[Array.getElem?_extract_of_lt (by omega)];simp
 have Z:(iS.extract 0 n).size=n:=by simp;omega
 have M:∀(listed:Array Bool),listed.size=n->∀k d,k<n->(listed.push false).getD k d=listed.getD k d:=fun listed b k d hk=>by rw[aU,aU,eZ (by omega),cM (by omega)]
 have gn:∀(listed:Array Bool),listed.size=n->∀d,(listed.push false).getD n d=false:=fun listed b d=>by rw[aU,<-b,fJ];rfl
 have V:∀(listed:Array Bool),listed.size=n->∀i,i<n->(i∈Region.ready md iS (listed.push false)↔i∈Region.ready md (iS.extract 0 n) listed):=fun listed b i l=>by
  rw[mq,mq,Z,a5,D i l,M listed b i true l];obtain⟨o,q,-,u,-⟩:=x i (by omega);rw[q];constructor
  .rintro⟨-,y,o',e,h3⟩;cases e;exact⟨l,y,o,rfl,fun e he r=>by have:=h3 e he r;rwa [M listed b _ _ (by have:=u e he r;omega)]at this⟩
  .rintro⟨-,y,o',e,h3⟩;cases e;exact⟨by omega,y,o,rfl,fun e he r=>by rw[M listed b _ _ (by have:=u e he r;omega)];exact h3 e he r⟩
 have a0:∀(listed:Array Bool),listed.size=n->Fw md iS (listed.push false)->n∈Region.ready md iS (listed.push false)->∀i,i<n->listed.getD i false=true:=fun listed b hd E=>by
  obtain⟨-,-,o,q,a1⟩:=mq.1 E;have key:∀m i,i<n->n-i<=m->(listed.push false).getD i false=true:=by
   intro m
   induction m with
   | zero=>intro i l hm;omega
   | succ m ih=>
    intro i l hm;obtain⟨-,-,-,-,hk⟩:=x i (by omega);rcases hk with rfl|⟨k,o',bl,bn,ag,e,he,r,rfl⟩
    .omega
    .by_cases a2:k=n
     .subst a2;rw[q]at ag;cases ag;exact a1 e he r
     .exact hd k o' ag (ih k (by omega) (by omega)) e he r
  intro i l;have:=key n i l (by omega)
  rwa [M listed b i _ l]at this
 have W:∀(listed:Array Bool),listed.size=n->Region.ready md (iS.extract 0 n) listed=[]->∀i,i<n->listed.getD i false=true:=fun listed b F=>by
  intro i
  induction i using Nat.strongRecOn with
  | _ i ih=>
   intro l;cases R:listed.getD i false with
   | true=>rfl
   | false=>
    have:i∈Region.ready md (iS.extract 0 n) listed:=by obtain⟨o,q,-,u,-⟩:=x i (by omega);refine mq.2 ⟨by omega,?_,o,(D i l).trans q,fun e he r=>ih e.on (u e he r) (by have:=u e he r;omega)⟩;rw[aU,cM (by omega)]at R⊢;exact R
    rw[F]at this;cases this
 intro f
 induction f with
 | zero=>
  rintro listed a w b hd ⟨F,hq⟩;have S:=W listed b F;have E:n∈Region.ready md iS (listed.push false):=by obtain⟨o,q,-,u,-⟩:=x n gH;exact mq.2 ⟨by omega,gn listed b true,o,q,fun e he r=>by have:=u e he r;rw[M listed b _ _ this];exact S _ this⟩
  refine⟨(fun h=>by rw[h]at E;cases E),fun i l=>?_⟩;have B:i=n:=by have h1:=(mq.1 l).1;refine eI fun a7=>?_;have:=(V listed b i (by omega)).1 l;rw[F]at this;cases this
  subst B;unfold wpOp;simp only[hl];obtain⟨o,q,R,-⟩:=x i gH;rw[hl]at q;cases q;rw[aw (by simp[Region.wanted,R])];refine .inl (Oper.wp_mono (fun a' w' hQ=>⟨?_,hQ⟩) hq);refine List.eq_nil_iff_forall_not_mem.2 fun j X=>?_;obtain⟨j1,s,-⟩:=mq.1 X;by_cases U:j=i
  .subst U;rw[aU,dm,aw (by simp;omega)]at s;cases s
  .rw[aU,cC (dW U),<-aU,M listed b j _ (by omega)]at s;have:=S j (by omega);rw[aU,cM (by omega)]at this s;simp only[bZ]at this s;rw[this]at s;cases s
 | succ f ih=>
  rintro listed a w b hd ⟨hq,hA⟩;by_cases F:Region.ready md (iS.extract 0 n) listed=[]
  ·
    have S:=W listed b F;have E:n∈Region.ready md iS (listed.push false):=by obtain⟨o,q,-,u,-⟩:=x n gH;exact mq.2 ⟨by omega,gn listed b true,o,q,fun e he r=>by have:=u e he r;rw[M listed b _ _ this];exact S _ this⟩
    refine⟨(fun h=>by rw[h]at E;cases E),fun i l=>?_⟩;have B:i=n:=by have h1:=(mq.1 l).1;refine eI fun a7=>?_;have:=(V listed b i (by omega)).1 l;rw[F]at this;cases this
    subst B;unfold wpOp;simp only[hl];obtain⟨o,q,R,-⟩:=x i gH;rw[hl]at q;cases q;rw[aw (by simp[Region.wanted,R])];refine .inl (Oper.wp_mono (fun a' w' hQ=>?_) (hq F));have a8:Region.ready md iS ((listed.push false).setIfInBounds i true)=[]:=by
     refine List.eq_nil_iff_forall_not_mem.2 fun j X=>?_;obtain⟨j1,s,-⟩:=mq.1 X;by_cases U:j=i
     .subst U;rw[aU,dm,aw (by simp;omega)]at s;cases s
     .rw[aU,cC (dW U),<-aU,M listed b j _ (by omega)]at s;have:=S j (by omega);rw[aU,cM (by omega)]at this s;simp only[bZ]at this s;rw[this]at s;cases s
    refine⟨fun _=>hQ,(fun j X=>by rw[a8]at X;cases X)⟩
  .obtain⟨j0,ap⟩:=List.exists_mem_of_ne_nil _ F;have ak:=mq.1 ap;have av:j0<n:=by rw[Z]at ak;exact ak.1
   have a9:n∉Region.ready md iS (listed.push false):=fun E=>by have h1:=a0 listed b hd E j0 av;have y:=ak.2.1;rw[aU,cM (by omega)]at h1 y;simp only[bZ]at h1 y;rw[h1]at y;cases y
   refine⟨fun h=>?_,fun i l=>?_⟩
   .have:=(V listed b j0 av).2 ap;rw[h]at this;cases this
   .have B:i<n:=by
     have h1:=(mq.1 l).1;have:i≠n:=fun e=>a9 (e▸l);omega
    have C:=hA i ((V listed b i B).1 l);obtain⟨o,q,R,-⟩:=x i (by omega);have al:(listed.push false).setIfInBounds i true=(listed.setIfInBounds i true).push false:=by
     refine Array.ext_getElem? fun k=>?_;by_cases e:i=k
     .subst e;rw[dm,aw (by simp;omega),eZ (by simp;omega),<-cM,dm,aw (by omega)]
     .rw[cC e];by_cases hk:k<n
      .rw[eZ (by omega),eZ (by simp;omega),<-cM,<-cM,cC e]
      .by_cases ba:k=n
       .subst ba;rw[<-b,fJ,show listed.size=(listed.setIfInBounds i true).size by simp,fJ]
       .rw[fW (by simp;omega),fW (by simp;omega)]
    unfold wpOp at C⊢;rw[D i B,q]at C;simp only[q];have hw:∀am,Region.wanted o (yielded am a.tmps)=true:=fun am=>by simp[Region.wanted,R]
    simp only[hw,dX]at C⊢;rcases C with C|⟨h1,y⟩
    .refine .inl (Oper.wp_mono (fun a' w' h'=>?_) (Oper.Ho C));rw[al];exact ih (listed.setIfInBounds i true) a' w' (by simpa using b) (by rw[<-al];exact hd.set l) h'
    .exact .inr ⟨h1,y⟩
theorem vf(n:Nat):(Array.replicate n false).push false=Array.replicate (n+1) false:=by rw[bd]
theorem jI{id:Nat}{iS:Array Oper}{S:Q0->Prop}(hm:P.follows .mixedOrders=true)(hF:Kg .any iS n=true)(hl:iS[n]?=N last)(j:S w.drew)(h:S w.drew->wpAnyH P .any (iS.extract 0 n) (M8 P last Qq) S n (Array.replicate n false) a w.drew):(Code.region id iS true).wp P Qq a w:=by
 refine wp_region_any hm ?_;rw[(Kh hF).1,<-vf];refine JQ hF hl n _ a _ (by simp) ?_ (wpAny_of_held _ _ _ _ (h j));intro i o l b;rw[vf,aU]at b;by_cases d:i<n+1
 .rw[Array.getElem?_replicate,aw d]at b;cases b
 .rw[Array.getElem?_replicate,af d]at b;cases b
def JZ(_:List Nat)(X:Prop):Prop:=X
theorem lS(is:List Nat)(h:JZ is X):X:=h
theorem ka(h:X):JZ [] X:=h
theorem jx{S:Q0->Prop}{iS:Array Oper}{is:List Nat}{b:Oper}(j:iS[i]?=N b)(d:(Region.noSelect iS&&Region.free md iS listed i&&(Region.ready md iS listed).contains i)=true)(l:S w)(m:Region.wanted b (yielded iS a.tmps)=true)(o:∀c a w,Qq (.panic c) (a.put b.dst v) w->Qq (.panic c) a w)(q:∀w,S w->(execOp a.eval b).run P w=.ok (.value v) w)(h:JZ is (wpAnyH P md iS Qq S fuel (listed.setIfInBounds i true) (a.put b.dst v) w)):JZ (i::is) (wpAnyH P md iS Qq S (fuel+1) listed a w):=by simp only[dQ]at d;exact wpAnyH_take j d.1.1 d.1.2 d.2 o (.inl ⟨m,q⟩) l h
theorem iT{S:Q0->Prop}{iS:Array Oper}(i:Nat){o:Oper}(b:Region.ready md iS listed=[i])(d:iS[i]?=N o)(h:∀K':Act->Q0->Prop,Shut (∀a w,S w->(S w->wpAnyH P md iS Qq S fuel (listed.setIfInBounds i true) a w)->K' a w)->if Region.wanted o (yielded iS a.tmps)=true then Oper.wp P o a w K' Qq else K' (a.put o.dst undef) w):
  wpAnyH P md iS Qq S (fuel+1) listed a w:=wpAnyH_ready b (by simp) (AllReadyH.cons d h AllReadyH.nil)
end
open Go.Shelf
theorem tL(t:Int):((mi t).toNat:Int)=IntKind.u8.wrap t:=by have h:IntKind.u8.wrap t=t%256:=rfl;rw[h];unfold mi;simp;omega
theorem nU{P:Rk}(p q:gw)(hl:O p+O q<=9223372036854775807)(w:Q0):(Op.stringOp .add ⟨Rm p⟩ ⟨Rm q⟩).run P w=.ok (Q7 ⟨(p++q).toArray⟩) w:=by rw[run_string_add_sum w _ _ (by simp[ByteArray.size];omega),ByteArray.mk_append_mk]
theorem gQ.ne{T:Ri}{b:Nat}{i:Nat×Nat}(h:gQ w v e)(j:w.heap[b]?=N (Q1 C T i))(l:T≠e):Rl v≠N b:=fun he=>by obtain⟨o,m,d⟩:=h b he;rw[j]at d;cases d;exact l rfl
theorem gQ.uV{S:List E}(h:gQ w v e)(d:iE w r S):Rl v≠N r:=fun he=>by obtain⟨j,i,b⟩:=h r he;obtain⟨-,L,⟨es,cl,hm,-⟩,-⟩:=d;rw[hm]at b;cases b
theorem iE.mZ{S:List E}{b:Nat}{T:Ri}{i:Nat×Nat}(j:iE w r S)(d:w.heap[b]?=N (Q1 C T i)):b≠r:=fun he=>by obtain⟨-,L,⟨es,cl,hm,-⟩,-⟩:=j;rw[he,hm]at d;cases d
theorem gQ.frame(h:gQ w v e)(j:∀b,Rl v=N b->b<G (Q w)->w'.heap[b]?=w.heap[b]?):gQ w' v e:=fun b d=>by obtain⟨C,l,i⟩:=h b d;exact⟨C,l,(j b d (gm i)).trans i⟩
theorem Aj:(prog.info? 9).map (fun i=>(i.zero,i.size,i.bytes))=N (N (Q7 ⟨#[]⟩),1,16):=by kernel_rfl
theorem yS(w:Q0)(s:gw):gE (Ro w (Q1 #[Q7 ⟨Rm s⟩] 9)) (Q6 (N ⟨G (Q w),0,J⟩) 1 1) 1 1 (jr [s]):=by
 refine⟨rfl,_,1,rfl,aq _,fun i b=>⟨_,0,rfl,?_⟩⟩;obtain rfl:i=0:=by simp[jr]at b;omega
 rw[pK];rfl
theorem vQ(l:List gw):∀u∈jr l,u.oneCell'=true:=by intro u b;obtain⟨s,-,rfl⟩:=aA.1 b;rfl
theorem vT{P:Rk}(w:Q0)(base:Nat)(t q ty e:Ri)(i:TypeInfo)(z:Q4)(C:P.underlying t=N (.slice e))(D:P.info? e=N i)(E:i.zero=N z)(s:z.cells.size=i.size)(u:0<i.size)(v:Q4)(n:Nat)(r:List Q4)(o:gS w base i.size v n r)(U:gQ w v e)(x:Q4)(m:Nat)(d:List Q4)(F:Src P i.size q x m d w)(y:n+m<=maxLen)(j:(n+m)*i.bytes<=140737488355328)(l:base<=G (Q w)):
  ∃v' w',(Builtin.append_ #[t,q] ty #[v,x]).run P w=.ok v' w'/\gS w' base i.size v' (n+m) (r++d)/\w.grownBy w' (Rl v)/\gQ w' v' e/\∀b,Rl v'=N b->Rl v=N b\/b=G (Q w):=by
 obtain⟨v',w',M,h1,V,W⟩:=mc (P:=P) w base t q ty e i z C D E s u v n r o U x m d F y j l;obtain⟨ag,ak,R,-,-,S⟩:=my (P:=P) w base t q ty e i z C D E s u v n r o x m d F y j l;have X:=R.symm.trans M;injection X with Z e2;subst Z e2;refine⟨_,_,M,h1,V,W,fun b B=>?_⟩;rcases S with ⟨g,off,cap,rfl,rfl,-⟩|rfl|⟨cap,rfl,-⟩
 .exact .inl B
 .simp[Value.ownBlock]at B
 .right;simpa [Value.ownBlock]using B.symm
theorem lL{P:Rk}{o:Oper}{K:Act->Q0->Prop}(s x:Operand)(t r:Ri)(E:o.op=.call {callee:=.builtin .append,args:=#[s,x],argTypes:=#[t,r]})(base k:Nat)(e:Ri)(i:TypeInfo)(z:Q4)(F:P.underlying t=N (.slice e))(M:P.info? e=N i)(R:i.zero=N z)(hk:i.size=k)(B:z.cells.size=i.size)(C:0<i.size)(v:Q4)(n:Nat)(u:List Q4)(S:a.eval s=v)(y:gS w base k v n u)(U:gQ w v e)(m:Nat)(j:List Q4)(V:Src P k r (a.eval x) m j w)(D:n+m<=maxLen)(l:(n+m)*i.bytes<=140737488355328)(q:base<=G (Q w))(h:∀v' w',gS w' base k v' (n+m) (u++j)->w.grownBy w' (Rl v)->gQ w' v' e->(∀b,Rl v'=N b->Rl v=N b\/b=G (Q w))->K (a.put o.dst v') w'):o.wp P a w K d:=by subst hk;obtain⟨v',w',W,h1,X,Z,h4⟩:=vT (P:=P) w base t r o.type e i z F M R B C v n u y U (a.eval x) m j V D l q;unfold Oper.wp execOp;simp only[E,resolve,invoke,builtin,cI,fF,cz,eH,bG,dM,S,W];exact h v' w' h1 X Z h4
theorem qm{iS:Array Oper}{o:Oper}{K:Act->Q0->Prop}{E:Prop}(r:o.guard=J)(s x:Operand)(B:o.op=.call {callee:=.builtin .append,args:=#[s,x],argTypes:=#[28,28]})(base:Nat)(v:Q4)(n:Nat)(l:List gw)(X:n=O l)(C:a.eval s=v)(q:gS w base 1 v n (jr l))(D:gQ w v 9)(m:List gw)(F:gE w (a.eval x) 1 (O m) (jr m))(M:n+O m<=8796093022208)(i:base<=G (Q w))(h:∀v' w',gS w' base 1 v' (n+O m) (jr (l++m))->w.grownBy w' (Rl v)->gQ w' v' 9->(∀b,Rl v'=N b->Rl v=N b\/b=G (Q w))->
    K (a.put o.dst v') w'):if Region.wanted o (yielded iS a.tmps)=true then Oper.wp prog o a w K d else E:=by
 have R:Region.wanted o (yielded iS a.tmps)=true:=by simp[Region.wanted,r]
 rw[aw R];obtain⟨i0,S,u,j,y⟩:=dE Aj;have hmx:maxLen=9223372036854775807:=rfl;refine lL s x _ _ B base 1 9 i0 (Q7 ⟨#[]⟩) underlying28 S u j (by rw[j];rfl) (by omega) v n (jr l) C q D (O m) (jr m) (gE.src underlying28 F (vQ m)) (by omega) (by rw[y];omega) i (fun v' w' h1 U V W=>?_);rw[<-ny]at h1;exact h v' w' h1 U V W
def Hu(base h:Nat)(x:HV)(d':jz)(w:Q0)(e:Ending)(w':Q0):Prop:=e=Ra (Rc #[])/\∃lv,xj w' base h {x with left:=d'.left,ir:=d'.ir,iF:=lv} d'/\gR (fun i=>i=h\/i=x.r\/Rl x.iF=N i) w w'/\∀i,Rl lv=N i->Rl x.iF=N i\/G (Q w)<=i
theorem Iq(base h:Nat)(x:HV)(d:jz)(t:Int)(kb:gw)(w:Q0)(hd:xj w base h x d)(y:base<=G (Q w))(bA:O d.iF<=8000000000000)(hk:O kb<=im):
  Rg prog 242 #[Q9 #[Q5 (N ⟨h,0,J⟩)],Q9 #[I Y t,Q7 ⟨Rm kb⟩]] w (Hu base h x (d.drop (t,kb)) w):=by
 have bb:Q8 (G (Q w)) w ((Ro w (Q1 #[Q5 (N ⟨h,0,J⟩)] 116)).alloc (Q1 #[I Y t,Q7 ⟨Rm kb⟩] 103)):=((gJ w).alloc gH _).alloc (by simp) _;have R0:=gP _ (Q1 #[I Y t,Q7 ⟨Rm kb⟩] 103) (gB w (Q1 #[Q5 (N ⟨h,0,J⟩)] 116));have R1:=gB (Ro w (Q1 #[Q5 (N ⟨h,0,J⟩)] 116)) (Q1 #[I Y t,Q7 ⟨Rm kb⟩] 103);rw[aj]at R1;have rc:=gr 0 R0;obtain⟨m,a4,a5,a6,C,bc,B,bB,bD⟩:=hd;have bi:=gm m;have H0:=m.iI (bb.block h bi);have HW:=gj bb;have HK:=gj (tL t);have lo:-1<=x.left:=by omega
 have hi:x.left<=9223372036854775807:=by omega
 have cq:=gj (sp h x _ H0 lo hi);have bk:=gj (B.ne m (by decide));have bl:=gj (C.mZ m);have cr:=gj (B.uV C);have b8:gy (x.r<G (Q w)):=gj C.lt;have bE:=gj bB;have cs:=gj bD;have HL:=gj a4;have HD:=gj a5;have bH:=gj a6;have HT:=gj C;have HO:=gj bc;have ct:=gj B;have cu:=gj R0;have cv:=gj R1;have HB:=gj y;have cB:=gj bA;have d3:=gj m;clear bB bD a4 a5 a6 C bc B R0 R1 bb H0 lo hi y bA m;go_enter func242,ntmps242;go_wp2_with fail;refine cq.o.mono ?_;rintro e w2 ⟨rfl,bI,bn,a7⟩;have bo:G (Q w)≠h:=by omega
 have br:G (Q w)+1≠h:=by omega
 have Z:=gj (a7.at bo cu.o);have D:=gj (a7.at br cv.o);have av:=gj bI;have c0:=gj a7;have bL:gy (G (Q w2)=G (Q w)+2):=gj (by rw[bn];simp);clear bI a7 bn rc bo br;have rc:=gr 0 Z.o;have aE:gy (gR (fun i=>i=h) w w2):=gj ((gR.gO HW.o).trans c0.o);have bM:gy (gR (fun i=>i=h\/i=x.r\/Rl x.iF=N i) w w2):=gj (aE.o.mono fun i e=>.inl e);have bN:gy (gS w2 base 1 x.iF (O d.iF) (jr d.iF)):=gj (HO.o.frame aE.o.size fun b e y=>aE.o.block b y fun e'=>bk.o (by rw[e,e']));have ag:gy (gQ w2 x.iF 9):=gj (ct.o.frame fun b e y=>aE.o.block b y fun e'=>bk.o (by rw[e,e']));have a0:gy (iE w2 x.r d.S):=gj (HT.o.iI (aE.o.block _ b8.o (dW bl.o)));have u:gy (x.stop.ir=d.stop.ir/\x.stop.left=d.stop.left):=gj (by unfold HV.stop jz.stop;rw[HL.o,HD.o];exact⟨rfl,rfl⟩);have bs:gy (-1<=d.stop.left/\d.stop.left<=9223372036854775807):=gj (by have:=cs.o;unfold jz.stop;simp only;split<;>omega);cases hdd:x.stop.ir with
 | true=>
  go_wp2;refine ai (ef rfl _ _ _) rfl ?_;have e:d.drop (t,kb)=d.stop:=by unfold jz.drop;rw[<-u.o.1,hdd];rfl
  refine⟨rfl,x.iF,?_,bM.o,fun i e=>.inl e⟩;rw[e,<-u.o.1,<-u.o.2];exact⟨av.o,u.o.2,u.o.1,bH.o,a0.o,bN.o,ag.o,bE.o,bs.o⟩
 | false=>
  unfold iQ HV.cells at *
  have el:=gr 11 av.o;have f9:=gD 11 av.o;have E:=gr 0 D.o;have F:=gr 1 D.o;have ec:=gm av.o;have ed:=gm D.o;have d4:=gm Z.o;have c1:gy (gI (Ro w2 (Q1 #[I Rf (IntKind.u8.wrap t)] 5)) (Q6 (N ⟨G (Q w2),0,J⟩) 1 1) [mi t]):=gj (by rw[<-HK.o];exact ow w2 (mi t));go_wp2;have hcv:=gI.convert (w:=(Ro w2 (Q1 #[I Rf (IntKind.u8.wrap t)] 5)).drew) (by exact c1.o);have c2:=fun W=>nU (P:=prog) [100,114,111,112,32] [mi t] (by simp) W;have c3:=fun W=>nU (P:=prog) [100,114,111,112,32,mi t] kb (by unfold im at hk;simp;omega) W;have bO:=fun o o'=>gj (Below.drew (Below.al (Below.al (Below.rf w2) o) o'));have bP:=gj (yS (Ro w2 (Q1 #[I Rf (IntKind.u8.wrap t)] 5)) (100::114::111::112::32::mi t::kb));rw[aj]at bP;rw[bU]at rc E F;simp only[aY,aX]at rc E F;simp only[bU,aY,aX]at el;have a8:=fun o=>gj (show _/\_/\_/\_ from⟨iK o rc,iK o E,iK o F,iK o el⟩);have a9:=fun o o'=>gj (show _/\_/\_/\_ from⟨iK o' (iK o rc),iK o' (iK o E),iK o' (iK o F),iK o' (iK o el)⟩);refine jI (n:=20) (S:=fun w'=>Rn w' ⟨G (Q w),0,J⟩=N (Q5 (N ⟨h,0,J⟩))/\Rn w' ⟨G (Q w)+1,0,J⟩=N (I Y t)/\Rn w' ⟨G (Q w)+1,1,J⟩=N (Q7 ⟨Rm kb⟩)/\Rn w' ⟨h,11,J⟩=N x.stop.iF) (by kernel_rfl) (by kernel_rfl) rfl (by first|exact⟨rc,E,F,el⟩|exact(a8 _).out|exact(a9 _ _).out) ?_;intro b9;simp only[cJ,b7,bC,cO,aN,bp,bd,bf,bK,aQ,aV];refine lS [0,1,2,3,4,5,6,7,8,9,13,14] ?_
  repeat(refine jx (v:=?_) rfl (by kernel_rfl) (by assumption) (by rfl) (fun _ _ _ h=>h) ?_ ?_;rotate_left 1;(· intro w a2;(try dsimp only at a2);go_simp;(try with_reducible rfl));try simp only[Act.put,List.setIfInBounds_toArray,List.set_cons_zero,List.set_cons_succ])
  refine ka ?_;refine iT 10 (by kernel_rfl) rfl ?_;intro K' hK';go_simp;refine hK'.out _ _ (by first|exact⟨rc,E,F,el⟩|exact(a8 _).out|exact(a9 _ _).out) ?_;clear hK' K';intro ca
  try simp only[az,aG,aK]
  refine iT 11 (by kernel_rfl) rfl ?_;intro K' hK';go_simp;refine hK'.out _ _ (by first|exact⟨rc,E,F,el⟩|exact(a8 _).out|exact(a9 _ _).out) ?_;clear hK' K';intro cb
  try simp only[az,aG,aK]
  refine lS [12,15] ?_
  repeat(refine jx (v:=?_) rfl (by kernel_rfl) (by assumption) (by rfl) (fun _ _ _ h=>h) ?_ ?_;rotate_left 1;(· intro w a2;(try dsimp only at a2);go_simp;(try with_reducible rfl));try simp only[Act.put,List.setIfInBounds_toArray,List.set_cons_zero,List.set_cons_succ])
  refine ka ?_;refine iT 16 (by kernel_rfl) rfl ?_;intro K' hK';go_simp;refine hK'.out _ _ (by first|exact⟨rc,E,F,el⟩|exact(a8 _).out|exact(a9 _ _).out) ?_;clear hK' K';intro cc
  try simp only[az,aG,aK]
  refine iT 17 (by kernel_rfl) rfl ?_;intro K' hK';refine qm rfl (.tmp 13) (.tmp 23) rfl base _ _ d.iF rfl rfl (by exact bN.o.below (bO _ _).out) (by exact ag.o.frame fun b _ y=>(bO _ _).out.block b y) [oQ (t,kb)] (by exact bP.o) (by have:=cB.o;simp;omega) (by have:=HB.o;have:=bL.o;simp;omega) ?_;intro v3 w3 ak l am bR;obtain⟨a3,M,rfl⟩:=ak.shape;have U:=gj (lR l bk.o (gP _ (Q1 #[Q7 ⟨(100::114::111::112::32::mi t::kb).toArray⟩] 9) (gP _ (Q1 #[I Rf (IntKind.u8.wrap t)] 5) av.o)));have bS:=gj (lR l (ag.o.ne Z.o (by decide)) (gP _ (Q1 #[Q7 ⟨(100::114::111::112::32::mi t::kb).toArray⟩] 9) (gP _ (Q1 #[I Rf (IntKind.u8.wrap t)] 5) Z.o)));have bt:=gj (lR l (ag.o.ne D.o (by decide)) (gP _ (Q1 #[Q7 ⟨(100::114::111::112::32::mi t::kb).toArray⟩] 9) (gP _ (Q1 #[I Rf (IntKind.u8.wrap t)] 5) D.o)));refine hK'.out _ _ ⟨gr 0 bS.o,gr 0 bt.o,gr 1 bt.o,gr 11 U.o⟩ ?_;clear hK' K';intro cd
  try simp only[Act.put,az,aG,aK]
  refine lS [18,19] ?_
  repeat(refine jx (v:=?_) rfl (by kernel_rfl) (by assumption) (by rfl) (fun _ _ _ h=>h) ?_ ?_;rotate_left 1;(· intro w a2;(try dsimp only at a2);go_simp;(try with_reducible rfl));try simp only[Act.put,List.setIfInBounds_toArray,List.set_cons_zero,List.set_cons_succ])
  refine ka ?_;refine wpAnyH_done (by kernel_rfl) ?_ _;show Oper.wp _ _ _ _ _ _;have e9:=gr 11 U.o;have g9:=gD 11 U.o;have eg:=gm U.o;have ce:gy (∀i,(Q6 a3 (O d.iF+1) M).ownBlock=N i->Rl x.iF=N i\/G (Q w)<=i):=gj (fun i e=>(bR i e).imp id fun e'=>by have:=bL.o;rw[e'];simp;omega);have c4:gy (G (Q w2)<=G (Q w3)):=gj (by have:=l.size;simp at this;omega);have bX:=gj (am.ne U.o (by decide));have b0:gy (iE w3 x.r d.S):=gj (a0.o.iI ((l.block _ (by simp;have:=a0.o.lt;omega) (fun e=>cr.o e.symm)).trans ((heap_alloc_old _ _ (by simp;have:=a0.o.lt;omega)).trans (heap_alloc_old _ _ a0.o.lt))));have cg:=gj (am.uV b0.o);have c5:=gj ak;have ci:=gj am;have c6:gy (gR (fun i=>Rl x.iF=N i) w2 w3):=gj ⟨l.os,l.tape,l.output,c4.o,fun i hi V=>(l.block i (by simp;omega) (fun e=>V e.symm)).trans ((heap_alloc_old _ _ (by simp;omega)).trans (heap_alloc_old _ _ hi))⟩;clear ak l am bR;go_wp2;obtain⟨q,X⟩:∃q,q=Rp w3 ⟨h,11,J⟩ (Q6 a3 (O d.iF+1) M):=⟨_,rfl⟩;rw[<-X];have s:∀j,j≠h->q.heap[j]?=w3.heap[j]?:=fun j hj=>by rw[X];exact Below.heap_setCell _ ⟨h,11,J⟩ _ j hj
  have cm:gy (G (Q q)=G (Q w3)):=gj (by rw[X,QO]);have bv:gy (iQ q h {x.stop with iF:=Q6 a3 (O d.iF+1) M}):=gj (by rw[X];exact QN _ _ 11 _ U.o);have b1:=gj ((s _ (by omega:G (Q w)≠h)).trans bS.o);have bw:=gj ((s _ (by omega:G (Q w)+1≠h)).trans bt.o);have c7:gy (iE q x.r d.S):=gj (b0.o.iI (s _ (dW bl.o)));have c8:=gj (c5.o.frame (w':=q) (by have:=cm.o;omega) fun b e _=>s b fun e'=>bX.o (by rw[e,e']));have cn:=gj (ci.o.frame (w':=q) fun b e _=>s b fun e'=>bX.o (by rw[e,e']));have c9:gy (gR (fun i=>i=h\/i=x.r\/Rl x.iF=N i) w q):=gj (by rw[X];exact(bM.o.trans (c6.o.mono fun i e=>.inr (.inr e))).setCell _ _ (.inl (.inl rfl)));clear X s rc E F el f9 e9 g9;unfold iQ HV.cells at *
  have q0:=gr 0 b1.o;have E:=gr 0 bw.o;have F:=gr 1 bw.o;have em:=gr 10 bv.o;simp only[bU,aY,aX]at q0 E F em;have ej:Rn q ⟨h,10,J⟩=N (.map (N x.r)):=em;clear em;obtain⟨W1,hu,b2,b3,dc⟩:=iE.drop (w:=q) c7.o (mt:=123) underlying123 (t,kb) 103 0;have b4:=hu 1;have bx:∀w:Q0,w.drewN 1=w.drew:=fun _=>rfl;rw[bx,bx]at b4;simp only[kV,nd]at b4;have dk:=gj b2;have R:=gj b3;have dl:=gm bv.o;have d7:=gm b1.o;have d8:=gm bw.o;clear hu bx b2 b3 dc hcv c2 c3 b9 ca cb cc cd;go_region;go_wp2;go_end0;have e:d.drop (t,kb)={d.stop with S:=om (t,kb) d.S,iF:=d.iF++[oQ (t,kb)]}:=by unfold jz.drop;rw[<-u.o.1,hdd];rfl
  refine⟨rfl,Q6 a3 (O d.iF+1) M,?_,?_,ce.o⟩
  .rw[e];have V:∀b,(Q6 a3 (O d.iF+1) M).ownBlock=N b->b≠x.r:=fun b e1 e2=>cg.o (by rw[<-e2];exact e1);have ap:∀j,j≠x.r->j<G (Q q)->W1.heap[j]?=q.heap[j]?:=fun j hj bi=>R.o.block j bi (fun e=>hj (by cases e;rfl));refine⟨?_,rfl,rfl,bH.o,dk.o.iI rfl,?_,?_,bE.o,bs.o⟩
   .show W1.heap[h]?=_;rw[ap h bl.o dl];have:=bv.o;simp only[u.o.1,u.o.2]at this⊢;exact this
   .have h1:=c8.o.frame (w':=W1) R.o.size fun b e y=>ap b (V b e) y;rw[ny]at h1;show gS W1 base 1 _ (d.iF++[oQ (t,kb)]).length (jr (d.iF++[oQ (t,kb)]));rw[ny,ab];exact h1
   .exact cn.o.frame (w':=W1) fun b e y=>ap b (V b e) y
  .refine(c9.o.j8 (T:=fun i=>i=x.r) (c:=W1.drew) ⟨R.o.os,R.o.tape,R.o.output,R.o.size,fun k hk V=>R.o.block k hk fun e=>V (by cases e;rfl)⟩ fun i e=>.inl (.inr (.inl e)))
def l8(w:Q0)(F:Nat->Prop)(v:Q4)(b:gw):Prop:=gI w v b/\gQ w v 5/\∀k,Rl v=N k->F k
def iX(w:Q0)(F:Nat->Prop)(v:Q4)(rows:List gw):Prop:=
 ∃vals:List Q4,gS w 0 1 v (O rows) vals/\gQ w v 112/\(∀k,Rl v=N k->F k)/\∀(i:Nat) (b:gw),rows[i]?=N b->∃u,vals[i]?=N u/\l8 w F u b
def wi(gX:List (gw×Nat))(vals:List Q4):List Q4:=(gX.zip vals).flatMap fun x=>[I Y (x.1.2:Int),x.2]
def pg(w:Q0)(F:Nat->Prop)(v:Q4)(gX:List (gw×Nat)):Prop:=
 ∃vals:List Q4,O vals=O gX/\gS w 0 2 v (O gX) (wi gX vals)/\gQ w v 157/\(∀k,Rl v=N k->F k)/\∀(i:Nat) (b:gw×Nat),gX[i]?=N b->∃u,vals[i]?=N u/\l8 w F u b.1
structure ji(w:Q0)(F:Nat->Prop)(h:Nat)(x:HV)(H:gA):Prop where
 dp:xj w 0 h x H.dp
 fail:x.fail=H.fail
 il:x.il=H.il
 held:iX w F x.held H.held
 gG:iX w F x.gG H.gG
 gX:pg w F x.gX H.gX
 pV:∀k,Rl x.held=N k->Rl x.gG≠N k
 qL:F h/\F x.r/\∀k,Rl x.iF=N k->F k
 lt:∀k,F k->k<G (Q w)
def iU(w:Q0)(F:Nat->Prop)(h:Nat)(H:gA):Prop:=∃x,ji w F h x H
def kc(w:Q0)(F S:Nat->Prop)(h:Nat)(H:gA)(w':Q0):Prop:=∃F',iU w' F' h H/\(∀k,F' k->F k\/G (Q w)<=k)/\gR (fun k=>F k\/S k) w w'
theorem l8.iI{b:gw}(h:l8 w F v b)(l:∀k C d,w.heap[k]?=N (Q1 C 5 d)->F k->w'.heap[k]?=w.heap[k]?):l8 w' F v b:=by
 obtain⟨h1,i,j⟩:=h;have hk:∀k,Rl v=N k->k<G (Q w)->w'.heap[k]?=w.heap[k]?:=fun k e _=>by obtain⟨C,d,m⟩:=i k e;exact l k C d m (j k e)
 exact⟨gE.frame h1 hk,i.frame hk,j⟩
theorem l8.mono{d:Nat->Prop}{b:gw}(h:l8 w F v b)(i:∀k,F k->d k):l8 w d v b:=⟨h.1,h.2.1,fun k e=>i k (h.2.2 k e)⟩
theorem iX.Gq(h:iX w F v rows)(j:G (Q w)<=G (Q w'))(hk:∀k,Rl v=N k->k<G (Q w)->w'.heap[k]?=w.heap[k]?)(l:∀k C m,w.heap[k]?=N (Q1 C 5 m)->F k->w'.heap[k]?=w.heap[k]?):iX w' F v rows:=by obtain⟨vals,h1,o,q,r⟩:=h;refine⟨vals,h1.frame j hk,o.frame hk,q,fun i b s=>?_⟩;obtain⟨u,x,d⟩:=r i b s;exact⟨u,x,d.iI l⟩
theorem iX.iI(h:iX w F v rows)(j:G (Q w)<=G (Q w'))(i:∀k C t b,w.heap[k]?=N (Q1 C t b)->(t=5\/t=112)->F k->w'.heap[k]?=w.heap[k]?):iX w' F v rows:=by have l:=h;obtain⟨vals,h1,m,o,q⟩:=l;exact h.Gq j (fun k e _=>by obtain⟨C,b,d⟩:=m k e;exact i k C _ b d (.inr rfl) (o k e)) fun k C b d hF=>i k C _ b d (.inl rfl) hF
theorem iX.mono{d:Nat->Prop}(h:iX w F v rows)(l:∀k,F k->d k):iX w d v rows:=by obtain⟨vals,h1,m,o,q⟩:=h;refine⟨vals,h1,m,fun k e=>l k (o k e),fun i b r=>?_⟩;obtain⟨u,s,j⟩:=q i b r;exact⟨u,s,j.mono l⟩
theorem pg.iI{gX:List (gw×Nat)}(h:pg w F v gX)(r:G (Q w)<=G (Q w'))(m:∀k C t d,w.heap[k]?=N (Q1 C t d)->(t=5\/t=157)->F k->w'.heap[k]?=w.heap[k]?):pg w' F v gX:=by
 obtain⟨vals,s,h1,o,q,x⟩:=h;have hk:∀k,Rl v=N k->k<G (Q w)->w'.heap[k]?=w.heap[k]?:=fun k e _=>by obtain⟨C,d,j⟩:=o k e;exact m k C _ d j (.inr rfl) (q k e)
 refine⟨vals,s,h1.frame r hk,o.frame hk,q,fun i b y=>?_⟩;obtain⟨u,B,l⟩:=x i b y;exact⟨u,B,l.iI fun k C d j hF=>m k C _ d j (.inl rfl) hF⟩
theorem pg.mono{d:Nat->Prop}{gX:List (gw×Nat)}(h:pg w F v gX)(l:∀k,F k->d k):pg w d v gX:=by obtain⟨vals,m,h1,o,q,r⟩:=h;refine⟨vals,m,h1,o,fun k e=>l k (q k e),fun i b s=>?_⟩;obtain⟨u,x,j⟩:=r i b s;exact⟨u,x,j.mono l⟩
theorem iX.get(h:iX w F v rows):∃g cap,v=Q6 g (O rows) cap/\O rows<=cap/\∀(i:Nat) (b:gw),rows[i]?=N b->∃g0 off u,g=N ⟨g0,off,J⟩/\Rn w ⟨g0,off+i,J⟩=N u/\l8 w F u b:=by obtain⟨vals,h1,y,B,j⟩:=h;obtain⟨hl,g,cap,l,hc,m⟩:=h1.sliceAt;refine⟨g,cap,l,hc,fun i b o=>?_⟩;obtain⟨u,q,r⟩:=j i b o;obtain⟨d,e⟩:=aH.1 q;obtain⟨g0,off,s,x⟩:=m i d;exact⟨g0,off,u,s,by rw[x,e],r⟩
theorem ji.frame(b:ji w F h x H)(j:G (Q w)<=G (Q w'))(i:∀k,F k->w'.heap[k]?=w.heap[k]?):ji w' F h x H:=by
 obtain⟨f1,f2,f3⟩:=b.qL;have d:=b.dp
 exact⟨⟨d.row.iI (i _ f1),d.left,d.ir,d.room,d.jh.iI (i _ f2),d.own.frame j fun k e _=>i k (f3 k e),d.qN.frame fun k e _=>i k (f3 k e),d.lo,d.lb⟩,b.fail,b.il,
  b.held.iI j fun k _ _ _ _ _ hF=>i k hF,b.gG.iI j fun k _ _ _ _ _ hF=>i k hF,b.gX.iI j fun k _ _ _ _ _ hF=>i k hF,b.pV,b.qL,fun k hk=>ae (b.lt k hk) j⟩
theorem iU.frame(b:iU w F h H)(d:G (Q w)<=G (Q w'))(i:∀k,F k->w'.heap[k]?=w.heap[k]?):iU w' F h H:=by obtain⟨x,j⟩:=b;exact⟨x,j.frame d i⟩
theorem iU.lt(b:iU w F h H):∀k,F k->k<G (Q w):=by obtain⟨x,d⟩:=b;exact d.lt
theorem iU.below(b:iU w F h H)(d:Q8 (G (Q w)) w w'):iU w' F h H:=b.frame d.size fun k hk=>d.block k (b.lt k hk)
theorem iU.ext(b:iU w F h H)(d:gR S w w')(i:∀k,F k->¬S k):iU w' F h H:=b.frame d.size fun k hk=>d.block k (b.lt k hk) (i k hk)
theorem kc.start(b:iU w F h H):kc w F S h H w:=⟨F,b,fun _=>.inl,gR.refl _ _⟩
theorem kc.below(d:kc w F S h H w1)(b:Q8 (G (Q w1)) w1 w'):kc w F S h H w':=by obtain⟨F',h1,i,j⟩:=d;exact⟨F',h1.below b,i,j.trans (gR.gO b)⟩
theorem kc.trans{w2:Q0}{b:Nat->Prop}{d:gA}(i:∀k,b k->F k\/G (Q w)<=k)(j:gR (fun k=>F k\/S k) w w1)(l:kc w1 b S h d w2):kc w F S h d w2:=by
 obtain⟨m,g1,g2,o⟩:=l;refine⟨m,g1,fun k hk=>?_,j.j8 o fun k hk=>?_⟩
 .rcases g2 k hk with e|e
  .exact i k e
  .exact .inr (au j.size e)
 .rcases hk with e|e
  .exact(i k e).imp .inl id
  .exact .inl (.inr e)
theorem qc(h:Nat)(x:HV)(w:Q0)(d:iQ w h x)(lo:-1<=x.fail)(y:x.fail<=9223372036854775807):
  Rg prog 241 #[Q5 (N ⟨h,0,J⟩)] w fun e w'=>e=Ra (Rh (decide (x.fail=0)))/\iQ w' h {x with fail:=if x.fail<0 then x.fail else x.fail-1}/\G (Q w')=G (Q w)/\gR (fun i=>i=h) w w':=by
 obtain⟨B,a1,a2,n,j,b,wr,r0,r1,r2,r,lv⟩:=x;unfold iQ HV.cells at d⊢;simp only at lo y d⊢;have c4:=gr 4 d;have f4:=gD 4 d;have D:=gm d
 have u:∀v:Q4,gy ((Rp w ⟨h,4,J⟩ v).heap[h]?=N (Q1 #[B,a1,a2,I Y n,v,Rh b,I Y wr,I Y r0,I Y r1,I Y r2,.map (N r),lv] 125)/\(Rp w ⟨h,4,J⟩ v).heap.size=G (Q w)/\gR (fun i=>i=h) w (Rp w ⟨h,4,J⟩ v)):=
  fun v=>gj ⟨QN _ _ 4 v d,QO _ _ _,(gR.refl _ w).setCell _ _ (.inl rfl)⟩
 have C:=gj d;clear d;go_enter func241,ntmps241;rcases dY j 0 with l|l|l
 .have e:decide (j=0)=false:=by simp;omega
  rw[aw l,e];go_wp2;go_ret;exact⟨rfl,C.o,rfl,gR.refl _ _⟩
 .subst l;rw[af (by omega)];go_wp2;go_ret;obtain⟨m,q,s⟩:=(u (I Y (-1))).out;exact⟨rfl,m,q,s⟩
 .have e:decide (j=0)=false:=by simp;omega
  have E:decide (j-1<0)=false:=by simp;omega
  rw[af (by omega),e];go_wp2;go_ret;obtain⟨m,q,s⟩:=(u (I Y (j-1))).out;exact⟨rfl,m,q,s⟩
theorem ji.PV(j:ji w F h x H)(h1:iQ w1 h x')(hs:G (Q w1)=G (Q w))(D:gR (fun i=>i=h) w w1)(E:x'.held=x.held/\x'.gG=x.gG/\x'.r=x.r/\x'.iF=x.iF/\x'.room=x.room)(M:H'.held=H.held/\H'.gG=H.gG/\H'.dp.S=H.dp.S/\H'.dp.iF=H.dp.iF/\H'.dp.room=H.dp.room)(R:x'.left=H'.dp.left/\x'.ir=H'.dp.ir/\x'.fail=H'.fail/\x'.il=H'.il)(lb:-1<=H'.dp.left/\H'.dp.left<=9223372036854775807)(q:pg w1 F x'.gX H'.gX):ji w1 F h x' H':=by
 obtain⟨f1,f2,f3⟩:=j.qL;have d:=j.dp;have B:∀k,k<G (Q w)->k≠h->w1.heap[k]?=w.heap[k]?:=fun k hk m=>D.block k hk m;have o:w.heap[h]?=_:=d.row;have s:∀(k:Nat) (C:Array Q4) (t:Ri) (b:Nat×Nat),w.heap[k]?=N (Q1 C t b)->t≠125->w1.heap[k]?=w.heap[k]?:=fun k C t b hk m=>B k (gm hk) fun e=>by rw[e,o]at hk;cases hk;exact m rfl
 have l:G (Q w)<=G (Q w1):=by omega
 obtain⟨a1,a2,a4,a5,U⟩:=E;obtain⟨V,b2,W,X,Z⟩:=M;obtain⟨d1,d2,d3,d4⟩:=R;refine⟨⟨h1,d1,d2,by rw[U,Z];exact d.room,?_,?_,?_,⟨aJ _,aJ _⟩,lb⟩,d3,d4,?_,?_,q,by rw[a1,a2];exact j.pV,by rw[a4,a5];exact j.qL,fun k hk=>ae (j.lt k hk) l⟩
 .rw[a4,W];exact d.jh.iI (B _ d.jh.lt fun e=>d.jh.mZ o e.symm)
 .rw[a5,X];exact d.own.frame l fun k e _=>by obtain⟨C,b,u⟩:=d.qN k e;exact s k C _ b u (by decide)
 .rw[a5];exact d.qN.frame fun k e _=>by obtain⟨C,b,u⟩:=d.qN k e;exact s k C _ b u (by decide)
 .rw[a1,V];exact j.held.iI l fun k C t b hk y _=>s k C t b hk (by rcases y with rfl|rfl<;>decide)
 .rw[a2,b2];exact j.gG.iI l fun k C t b hk y _=>s k C t b hk (by rcases y with rfl|rfl<;>decide)
theorem ji.row(d:ji w F h x H)(h1:iQ w1 h x')(m:G (Q w1)=G (Q w))(l:gR (fun i=>i=h) w w1)(o:x'.held=x.held/\x'.gG=x.gG/\x'.gX=x.gX/\x'.r=x.r/\x'.iF=x.iF/\x'.room=x.room)(q:H'.held=H.held/\H'.gG=H.gG/\H'.gX=H.gX/\H'.dp.S=H.dp.S/\H'.dp.iF=H.dp.iF/\H'.dp.room=H.dp.room)(s:x'.left=H'.dp.left/\x'.ir=H'.dp.ir/\x'.fail=H'.fail/\x'.il=H'.il)(lb:-1<=H'.dp.left/\H'.dp.left<=9223372036854775807):ji w1 F h x' H':=by have j:w.heap[h]?=_:=d.dp.row;obtain⟨a1,a2,a3,a4,a5,u⟩:=o;obtain⟨y,b2,B,D,E,M⟩:=q;refine d.PV h1 m l ⟨a1,a2,a4,a5,u⟩ ⟨y,b2,D,E,M⟩ s lb ?_;rw[a3,B];exact d.gX.iI (by omega) fun k C t U hk b _=>l.block k (gm hk) fun e=>by have R:k=h:=e;rw[R,j]at hk;cases hk;rcases b with b|b<;>exact absurd b (by decide)
theorem ji.jy(b:ji w F h x H)(h1:iQ w1 h {x with fail:=if x.fail<0 then x.fail else x.fail-1})(d:G (Q w1)=G (Q w))(j:gR (fun i=>i=h) w w1):
  ji w1 F h {x with fail:=if x.fail<0 then x.fail else x.fail-1} H.jy:=by
 refine b.row h1 d j ⟨rfl,rfl,rfl,rfl,rfl,rfl⟩ ⟨rfl,rfl,rfl,rfl,rfl,rfl⟩ ⟨b.dp.left,b.dp.ir,?_,b.il⟩ b.dp.lb;show _=H.jy.fail;unfold gA.jy;simp only[b.fail]
theorem OY{d:jz}(lb:-1<=d.left/\d.left<=9223372036854775807):-1<=d.stop.left/\d.stop.left<=9223372036854775807:=by unfold jz.stop;simp only;split<;>omega
theorem ji.Kv(b:ji w F h x H)(h1:iQ w1 h x.stop)(d:G (Q w1)=G (Q w))(j:gR (fun i=>i=h) w w1):
  ji w1 F h x.stop {H with dp:=H.dp.stop}:=by
 refine b.row h1 d j ⟨rfl,rfl,rfl,rfl,rfl,rfl⟩ ⟨rfl,rfl,rfl,rfl,rfl,rfl⟩ ⟨?_,?_,b.fail,b.il⟩ (OY b.dp.lb)
 .unfold HV.stop jz.stop;simp only[b.dp.left]
 .unfold HV.stop jz.stop;simp only[b.dp.left,b.dp.ir]
theorem iX.set{os:Nat}(h:iX w F (Q6 (N ⟨gs,os,J⟩) (O rows) cap) rows)(D:n<O rows){s:gw}(E:∀C l,w.heap[gs]?=N (Q1 C 112 l)->l8 w F u s)(he:w'=Rp w ⟨gs,os+n,J⟩ u):iX w' F (Q6 (N ⟨gs,os,J⟩) (O rows) cap) (rows.set n s):=by
 obtain⟨vals,h1,M,R,S⟩:=h;obtain⟨C,l,m⟩:=M gs rfl;have U:=E C l m;have o:w'.heap[gs]?=N (Q1 (C.setIfInBounds (os+n) u) 112 l):=by rw[he];exact QN _ _ _ _ m
 have q:∀k,k≠gs->w'.heap[k]?=w.heap[k]?:=fun k hk=>by rw[he];exact Below.heap_setCell w ⟨gs,os+n,J⟩ u k hk
 have j:∀(v:Q4) (b:gw),l8 w F v b->l8 w' F v b:=fun v b r=>r.iI fun k C' ak hk _=>q k fun e=>by rw[e,m]at hk;cases hk
 have V:G (Q w')=G (Q w):=by rw[he,QO]
 obtain⟨hl,x⟩:=h1;refine⟨vals.set n u,⟨by rw[cA,hl,cA],?_⟩,fun k hk=>?_,R,fun i b d=>?_⟩
 .rcases x with ⟨e,-⟩|⟨g',W,cap',e,X,al,hc,hm,Z,y⟩
  .cases e
  .cases e;right;refine⟨gs,os,cap,by rw[cA],X,by omega,by rw[cA];exact hc,hm,fun i d=>?_,fun i d=>?_⟩
   .rw[cA]at d;rw[List.getElem_set];split
    .rename_i e;subst e;rw[he];exact World.cell?_setCell_same' w _ u (y n (by omega)).1
    .rename_i am;rw[he,cW w (a:=⟨gs,os+n,J⟩) (b:=⟨gs,os+i,J⟩) u (by intro e;injection e with e1 e2;omega)];exact Z i d
   .obtain⟨f1,f2⟩:=y i d;refine⟨?_,?_⟩
    .by_cases e:i=n
     .subst e;rw[he,World.cell?_setCell_same' w _ u f1];rfl
     .rw[he,cW w (a:=⟨gs,os+n,J⟩) (b:=⟨gs,os+i,J⟩) u (by intro e;injection e with e1 e2;omega)];exact f1
    .rw[he,fq];exact f2
 .cases hk;exact⟨_,_,o⟩
 .by_cases e:i=n
  .subst e;rw[eF D]at d;cases d;exact⟨u,by rw[eF (by omega)],j _ _ U⟩
  .rw[eL (dW e)]at d;obtain⟨v,r,B⟩:=S i b d;exact⟨v,by rw[eL (dW e)];exact r,j _ _ B⟩
theorem l8.I8{B:Nat}{l:gw}(h:w.heap[B]?=N (Q1 (l6 l).toArray 5 (0,0)))(hF:F B)(b:O l=n):l8 w F (Q6 (N ⟨B,0,J⟩) n n) l:=by
 subst b;refine⟨gI.mk' gH fun i d=>⟨B,0,rfl,?_⟩,fun k hk=>?_,fun k hk=>?_⟩
 .have:=aP w B (0+i) _ _ _ h;rw[this,bY,bU,O0 l i d]
 .cases hk;exact⟨_,_,h⟩
 .cases hk;exact hF
theorem o6{iS:Array Oper}{o:Oper}{K:Act->Q0->Prop}{E:Prop}(F:o.guard=J)(s x:Operand)(t e:Ri)(k b:Nat)(z:Q4)(M:prog.underlying t=N (.slice e))(q:(prog.info? e).map (fun i=>(i.zero,i.size,i.bytes))=N (N z,k,b))(R:z.cells.size=k)(hk:0<k)(V:o.op=.call {callee:=.builtin .append,args:=#[s,x],argTypes:=#[t,t]})(base:Nat)(v:Q4)(n:Nat)(B:List Q4)(W:a.eval s=v)(C:gS w base k v n B)(X:gQ w v e)(m:Nat)(j:List Q4)(Z:gE w (a.eval x) k m j)(h1:∀u∈j,u.oneCell'=true)(D:n+m<=9223372036854775807)(l:(n+m)*b<=140737488355328)(r:base<=G (Q w))(h:∀v' w',gS w' base k v' (n+m) (B++j)->w.grownBy w' (Rl v)->gQ w' v' e->(∀b,Rl v'=N b->Rl v=N b\/b=G (Q w))->
    K (a.put o.dst v') w'):if Region.wanted o (yielded iS a.tmps)=true then Oper.wp prog o a w K d else E:=by
 have hw:Region.wanted o (yielded iS a.tmps)=true:=by simp[Region.wanted,F]
 rw[aw hw];obtain⟨i0,hi,S,y,U⟩:=dE q;exact lL s x _ _ V base k e i0 z M hi S y (by rw[y];exact R) (by omega) v n B W C X m j (gE.src M Z h1) D (by rw[U];exact l) r h
theorem PG:(prog.info? 157).map (fun i=>(i.zero,i.size,i.bytes))=N (N (Q9 #[I Y 0,Q6 J 0 0]),2,32):=by kernel_rfl
theorem IX{gX:List (gw×Nat)}(h:O vals=O gX)(s:gw)(n:Nat)(u:Q4):wi (gX++[(s,n)]) (vals++[u])=wi gX vals++[I Y (n:Int),u]:=by unfold wi;rw[List.zip_append h.symm,eO];rfl
theorem N4(w:Q0)(n:Int)(u:Q4):gE (Ro w (Q1 #[I Y n,u] 157)) (Q6 (N ⟨G (Q w),0,J⟩) 1 1) 2 1 [I Y n,u]:=by
 refine⟨rfl,_,1,rfl,aq _,fun i b=>⟨_,0,rfl,?_⟩⟩;rw[pK];obtain rfl|rfl:i=0\/i=1:=by simp at b;omega
 .rfl
 .rfl
theorem vK{T:Ri}{d:Nat×Nat}(h:gQ w v e)(i:w.heap[gs]?=N (Q1 C T d))(j:T≠e):∀k,Rl v=N k->k≠gs:=fun k hk l=>by obtain⟨o,m,b⟩:=h k hk;rw[l,i]at b;cases b;exact j rfl
theorem ji.Ku{os:Nat}{s:gw}(i:ji w F h x H)(r:x.gG=Q6 (N ⟨gs,os,J⟩) (O H.gG) cap)(S:n<O H.gG)(U:l8 w F' u s)(hF:∀k,F k->F' k)(E:∀k,F' k->k<G (Q w))(he:w'=Rp w ⟨gs,os+n,J⟩ u):ji w' F' h x {H with gG:=H.gG.set n s}/\G (Q w')=G (Q w)/\gR F w w':=by
 have m:=i.gG.mono hF;rw[r]at m;have D:=m;obtain⟨-,-,V,h3,-⟩:=D;obtain⟨Cg,aa,j⟩:=V gs rfl;have y:=m.set S (fun _ _ _=>U) he;have b:∀k,k≠gs->w'.heap[k]?=w.heap[k]?:=fun k hk=>by rw[he];exact Below.heap_setCell w ⟨gs,os+n,J⟩ u k hk
 have M:G (Q w')=G (Q w):=by rw[he,QO]
 have o:G (Q w)<=G (Q w'):=by omega
 have d:=i.dp;have q:w.heap[h]?=_:=d.row;obtain⟨f1,f2,f3⟩:=i.qL;have B:∀(k:Nat) (C:Array Q4) (l:Nat×Nat),w.heap[k]?=N (Q1 C 5 l)->w'.heap[k]?=w.heap[k]?:=fun k C l hk=>b k fun e=>by rw[e,j]at hk;cases hk
 have R:F gs:=by obtain⟨-,-,-,W,-⟩:=i.gG;exact W gs (by rw[r];rfl)
 refine⟨⟨⟨d.row.iI (b _ fun e=>?_),d.left,d.ir,d.room,d.jh.iI (b _ (dW (d.jh.mZ j))),d.own.frame o fun k e _=>b k (vK d.qN j (by decide) k e),d.qN.frame fun k e _=>b k (vK d.qN j (by decide) k e),d.lo,d.lb⟩,i.fail,i.il,?_,?_,?_,i.pV,⟨hF _ f1,hF _ f2,fun k e=>hF _ (f3 k e)⟩,fun k hk=>by have:=E k hk;omega⟩,M,?_⟩
 .rw[e,j]at q;cases q
 .refine(i.held.mono hF).Gq o (fun k e _=>b k fun X=>i.pV k e (by rw[r,X];rfl)) fun k C l hk _=>B k C l hk
 .rw[r];have e:(H.gG.set n s).length=O H.gG:=cA;show iX w' F' _ (H.gG.set n s);exact y
 .refine(i.gX.mono hF).iI o fun k C t l hk Z _=>?_;rcases Z with rfl|rfl
  .exact B k C l hk
  .exact b k fun e=>by rw[e,j]at hk;cases hk
 .rw[he];exact(gR.refl _ w).setCell _ _ (.inl R)
theorem ji.Ki{os:Nat}{s:gw}(i:ji w F h x H)(r:x.held=Q6 (N ⟨gs,os,J⟩) (O H.held) cap)(S:n<O H.held)(U:l8 w F' u s)(hF:∀k,F k->F' k)(E:∀k,F' k->k<G (Q w))(he:w'=Rp w ⟨gs,os+n,J⟩ u):ji w' F' h x {H with held:=H.held.set n s}/\G (Q w')=G (Q w)/\gR F w w':=by
 have m:=i.held.mono hF;rw[r]at m;have D:=m;obtain⟨-,-,V,h3,-⟩:=D;obtain⟨Cg,aa,j⟩:=V gs rfl;have y:=m.set S (fun _ _ _=>U) he;have b:∀k,k≠gs->w'.heap[k]?=w.heap[k]?:=fun k hk=>by rw[he];exact Below.heap_setCell w ⟨gs,os+n,J⟩ u k hk
 have M:G (Q w')=G (Q w):=by rw[he,QO]
 have o:G (Q w)<=G (Q w'):=by omega
 have d:=i.dp;have q:w.heap[h]?=_:=d.row;obtain⟨f1,f2,f3⟩:=i.qL;have B:∀(k:Nat) (C:Array Q4) (l:Nat×Nat),w.heap[k]?=N (Q1 C 5 l)->w'.heap[k]?=w.heap[k]?:=fun k C l hk=>b k fun e=>by rw[e,j]at hk;cases hk
 have R:F gs:=by obtain⟨-,-,-,W,-⟩:=i.held;exact W gs (by rw[r];rfl)
 refine⟨⟨⟨d.row.iI (b _ fun e=>?_),d.left,d.ir,d.room,d.jh.iI (b _ (dW (d.jh.mZ j))),d.own.frame o fun k e _=>b k (vK d.qN j (by decide) k e),d.qN.frame fun k e _=>b k (vK d.qN j (by decide) k e),d.lo,d.lb⟩,i.fail,i.il,?_,?_,?_,i.pV,⟨hF _ f1,hF _ f2,fun k e=>hF _ (f3 k e)⟩,fun k hk=>by have:=E k hk;omega⟩,M,?_⟩
 .rw[e,j]at q;cases q
 .rw[r];have e:(H.held.set n s).length=O H.held:=cA;show iX w' F' _ (H.held.set n s);exact y
 .refine(i.gG.mono hF).Gq o (fun k e _=>b k fun X=>i.pV gs (by rw[r];rfl) (by rw[<-X];exact e)) fun k C l hk _=>B k C l hk
 .refine(i.gX.mono hF).iI o fun k C t l hk Z _=>?_;rcases Z with rfl|rfl
  .exact B k C l hk
  .exact b k fun e=>by rw[e,j]at hk;cases hk
 .rw[he];exact(gR.refl _ w).setCell _ _ (.inl R)
theorem ji.OI{m w8:Q0}{v7:Q4}{s:gw}(o:ji w F h x H)(y:O vals=O H.gX)(av:∀(i:Nat) (b:gw×Nat),H.gX[i]?=N b->∃u,vals[i]?=N u/\l8 w F u b.1)(hu:l8 w F u s)(Z:gR (fun k=>Rl x.gX=N k) w m)(ag:gS m 0 2 v7 (O H.gX+1) (wi H.gX vals++[I Y (n:Int),u]))(B:gQ m v7 157)(hb:∀b,Rl v7=N b->Rl x.gX=N b\/G (Q w)<=b)(he:w8=Rp m ⟨h,2,J⟩ v7):
  ji w8 (fun k=>F k\/(G (Q w)<=k/\k<G (Q w8))) h {x with gX:=v7} {H with gX:=H.gX++[(s,n)]}/\gR F w w8:=by
 have d:=o.dp;have l:w.heap[h]?=_:=d.row;obtain⟨f1,f2,f3⟩:=o.qL;obtain⟨-,-,-,lt,lf,-⟩:=o.gX;have a0:¬(Rl x.gX)=N h:=lt.ne l (by decide);have q:m.heap[h]?=N (Q1 x.cells 125):=(Z.block h (gm l) a0).trans l;have D:∀k,k<G (Q w)->k≠h->¬(Rl x.gX)=N k->w8.heap[k]?=w.heap[k]?:=fun k hk h1 h2=>by rw[he,Below.heap_setCell m ⟨h,2,J⟩ v7 k h1];exact Z.block k hk h2
 have E:∀(k:Nat) (C:Array Q4) (t:Ri) (j:Nat×Nat),w.heap[k]?=N (Q1 C t j)->t≠125->t≠157->w8.heap[k]?=w.heap[k]?:=fun k C t j hk h1 h2=>D k (gm hk) (fun e=>by rw[e,l]at hk;cases hk;exact h1 rfl) fun e=>by obtain⟨C',a1,M⟩:=lt k e;rw[hk]at M;cases M;exact h2 rfl
 have R:G (Q w8)=G (Q m):=by rw[he,QO]
 have r:G (Q w)<=G (Q w8):=by rw[R];exact Z.size
 have S:∀k,F k->F k\/(G (Q w)<=k/\k<G (Q w8)):=fun k hk=>.inl hk;have a2:Rl v7≠N h:=fun e=>by obtain⟨C',a1,M⟩:=B h e;rw[q]at M;cases M
 have aa:∀b,Rl v7=N b->w8.heap[b]?=m.heap[b]?:=fun b hb=>by rw[he];exact Below.heap_setCell m ⟨h,2,J⟩ v7 b (fun e=>a2 (hb.trans (bm N e)))
 have U:∀(v:Q4) (b:gw),l8 w F v b->l8 w8 (fun k=>F k\/(G (Q w)<=k/\k<G (Q w8))) v b:=fun v b hv=>(hv.iI fun k C j hk _=>E k C _ j hk (by decide) (by decide)).mono S;refine⟨⟨⟨?_,d.left,d.ir,d.room,d.jh.iI (D _ d.jh.lt (fun e=>d.jh.mZ l e.symm) (lt.uV d.jh)),d.own.frame r fun k e _=>?_,d.qN.frame fun k e _=>?_,d.lo,d.lb⟩,o.fail,o.il,?_,?_,⟨vals++[u],by rw[ab,ab,y];rfl,?_,B.frame fun b e _=>aa b e,fun k e=>?_,fun i b V=>?_⟩,o.pV,⟨.inl f1,.inl f2,fun k e=>.inl (f3 k e)⟩,fun k hk=>?_⟩,?_⟩
 .rw[he];exact QN _ _ 2 v7 q
 .obtain⟨C,j,W⟩:=d.qN k e;exact E k C _ j W (by decide) (by decide)
 .obtain⟨C,j,W⟩:=d.qN k e;exact E k C _ j W (by decide) (by decide)
 .exact(o.held.mono S).iI r fun k C t j hk X _=>E k C t j hk (by rcases X with rfl|rfl<;>decide) (by rcases X with rfl|rfl<;>decide)
 .exact(o.gG.mono S).iI r fun k C t j hk X _=>E k C t j hk (by rcases X with rfl|rfl<;>decide) (by rcases X with rfl|rfl<;>decide)
 .rw[IX y,show(H.gX++[(s,n)]).length=O H.gX+1 by simp];exact ag.frame (by omega) fun b e _=>aa b e
 .rcases hb k e with e'|e'
  .exact .inl (lf k e')
  .right;obtain⟨C,j,W⟩:=B k e;exact⟨e',by rw[R];exact gm W⟩
 .by_cases a3:i<O H.gX
  .rw[cV a3]at V;obtain⟨v,hv,a4⟩:=av i b V;exact⟨v,by rw[cV (by omega)];exact hv,U _ _ a4⟩
  .have:i=O H.gX:=by
    have:=(aH.1 V).1;simp at this;omega
   subst this;rw[cT gH,ee]at V;cases V;exact⟨u,by rw[cT (by omega),y,ee];rfl,U _ _ hu⟩
 .rcases hk with hk|hk
  .exact ae (o.lt k hk) r
  .exact hk.2
 .rw[he];exact(Z.mono fun k e=>lf k e).setCell _ _ (.inl f1)
theorem sj(h:Nat)(F:Nat->Prop)(H:gA)(w:Q0)(m:iU w F h H):
  Rg prog 251 #[Q9 #[Q5 (N ⟨h,0,J⟩)]] w fun e w'=>e=Ra (I Y (O H.gG:Nat))/\Q8 (G (Q w)) w w':=by
 obtain⟨x,b⟩:=m;obtain⟨g,cap,j,-,-⟩:=b.gG.get;have d:Q8 (G (Q w)) w (Ro w (Q1 #[Q5 (N ⟨h,0,J⟩)] 217)):=(gJ w).alloc gH _;have i:=b.dp.row.iI (d.block h b.dp.row.lt);have r:=b.dp.row.lt;have l:=gB w (Q1 #[Q5 (N ⟨h,0,J⟩)] 217);have rc:=gr 0 l;unfold iQ HV.cells at i;rw[j]at i;have c1:=gr 1 i;have q:=gj d;clear b j i l d;go_enter func251,ntmps251;go_wp2;go_ret;exact⟨rfl,q.o⟩
def oF(w w':Q0)(v:Q4)(s:Nat):Prop:=∃b,v=.iface 188 (Q5 (N ⟨b,0,J⟩))/\G (Q w)<=b/\w'.heap[b]?=N (Q1 #[I Y ((s:Int)-2)] 191 (0,0))
theorem Nw(h:Nat)(F:Nat->Prop)(H:gA)(n:Nat)(w:Q0)(R:iU w F h H)(Z:n<O H.gG)(_hl:O H.gG<=1000)(y:H.jM=true):
  Rg prog 250 #[Q9 #[Q5 (N ⟨h,0,J⟩)],I Y (n:Nat)] w fun e w'=>∃v,e=Ra (Rc #[Q6 J 0 0,v])/\oF w w' v (n+2)/\iU w' F h H.jy/\gR F w w':=by
 obtain⟨x,b⟩:=R;obtain⟨g,cap,B,-,-⟩:=b.gG.get;have d:Q8 (G (Q w)) w (Ro w (Q1 #[Q5 (N ⟨h,0,J⟩)] 217)):=(gJ w).alloc gH _;have i:=b.frame d.size fun k hk=>d.block k (b.lt k hk);have j:=i.dp.row;have W:=b.dp.row.lt;have C:=gB w (Q1 #[Q5 (N ⟨h,0,J⟩)] 217);have rc:=gr 0 C;have q:x.fail=0:=by rw[b.fail];simpa [gA.jM]using y
 have D:=gj (qc h x _ j (by omega) (by omega));unfold iQ HV.cells at j;rw[B]at j;have c1:=gr 1 j;have S:=gj d;have U:=gj i;have E:=gj q;have V:gy (F h):=gj b.qL.1;have X:¬(O H.gG)<=n:=by omega
 clear b i B j C d y q;go_enter func250,ntmps250;go_wp2_with fail;refine D.o.mono ?_;rintro e w1 ⟨rfl,r,s,l⟩;rw[E.o];have u:=gj (U.o.jy r s l);have M:=gj l;clear r l;go_wp2;go_ret2;have m:Q8 (G (Q w1)) w1 (Ro w1 (Q1 #[I Y (n:Int)] 191)):=(gJ w1).alloc gH _;refine⟨_,rfl,⟨_,rfl,dS _,?_⟩,⟨_,u.o.frame m.size fun k hk=>m.block k (u.o.lt k hk)⟩,?_⟩
 .have h1:=gB w1 (Q1 #[I Y (n:Int)] 191);rw[s,aj]at h1;rw[h1,show((n+2:Nat):Int)-2=(n:Int) by omega]
 .exact((gR.gO S.o).trans (M.o.mono fun k e=>by rw[e];exact V.o)).trans (gR.gO m)
theorem LD(h:Nat)(F:Nat->Prop)(H:gA)(n:Nat)(b:gw)(w:Q0)(hh:iU w F h H)(M:H.gG[n]?=N b)(_hl:O H.gG<=1000)(br:O b<=1000)(hf:H.jM=false)(av:-1<=H.fail/\H.fail<=9223372036854775807):
  Rg prog 250 #[Q9 #[Q5 (N ⟨h,0,J⟩)],I Y (n:Nat)] w fun e w'=>∃v,e=Ra (Rc #[v,.nilIface])/\gI w' v b/\gQ w' v 5/\(∀k,Rl v=N k->G (Q w)<=k)/\iU w' F h H.jy/\gR F w w':=by
 obtain⟨x,j⟩:=hh;obtain⟨g,cap,Z,aa,s⟩:=j.gG.get;obtain⟨g0,off,u,rfl,R,ag⟩:=s n b M;have l:Q8 (G (Q w)) w (Ro w (Q1 #[Q5 (N ⟨h,0,J⟩)] 217)):=(gJ w).alloc gH _;have y:=j.frame l.size fun k hk=>l.block k (j.lt k hk);have B:=y.dp.row;have bs:=j.dp.row.lt;have R0:=gB w (Q1 #[Q5 (N ⟨h,0,J⟩)] 217);have rc:=gr 0 R0;have S:decide (x.fail=0)=false:=by rw[j.fail];exact hf
 have aE:=gj (qc h x _ B (by rw[j.fail];omega) (by rw[j.fail];omega));unfold iQ HV.cells at B;rw[Z]at B;have c1:=gr 1 B;have bt:n<O H.gG:=(aH.1 M).1;have bv:¬(O H.gG)<=n:=by omega
 have HB:=gj l;have HX:=gj y;have a0:=gj S;have HF:gy (F h):=gj j.qL.1;have U:=gj Z;have HN:=gj M;have a1:=gj R0;clear j y Z B R0 l hf S av M s R ag aa;go_enter func250,ntmps250;go_wp2_with fail;refine aE.o.mono ?_;rintro e w1 ⟨rfl,V,a3,m⟩;rw[a0.o];have q:=gj (HX.o.jy V a3 m);have a4:G (Q w)≠h:=by omega
 have R1:=m.at a4 a1.o;have W:gy (gR F w w1):=gj ((gR.gO HB.o).trans (m.mono fun k e=>by rw[e];exact HF.o));have d:=q.o.dp.row;unfold iQ HV.cells at d;simp only at d;rw[U.o]at d;have d1:=gr 1 d;have rd:=gr 0 R1;have bw:=gm d;have bx:=gm R1;obtain⟨g',cap',X,-,r⟩:=q.o.gG.get;obtain⟨a5,am,u',e1,a7,C⟩:=r n b HN.o;have e2:(Q6 (N ⟨g0,off,J⟩) (O H.gG) cap)=Q6 g' (O H.jy.gG) cap':=U.o.symm.trans X;obtain⟨rfl,-,rfl⟩:=Value.slice.inj e2;obtain⟨rfl,rfl⟩:g0=a5/\off=am:=by cases e1;exact⟨rfl,rfl⟩
 have a9:=gj C.1;have bz:=gK a7;have bl:=W.o.size;obtain⟨a2,k2,rfl,-,-⟩:=C.1.gU;clear rc c1 V m R1 d X r e1 e2 C;go_wp2_with (at_builtin;refine nV rfl _ (.tmp 34) rfl (G (Q w1)) (Q6 J 0 0) 0 [] rfl (gS.nil _ _ _) (gQ.nil _ _) b (by exact a9.o) (by omega) gH ?_;intro v2 w2 i _ D E;obtain⟨sa,sc,rfl⟩:=i.shape);go_ret2;simp only[aQ,bY]at i D;refine⟨Q6 sa (O b) sc,rfl,i.bytes,D,fun k e=>?_,⟨_,q.o.frame E.size fun k hk=>E.block k (q.o.lt k hk)⟩,W.o.trans (gR.gO E)⟩;have:=i.ie k e;omega
end Go.Proofs.YtkkfmkhbdoeglabGreatDoor
