/- Lemmas of the proof. No condition. -/
import Derived.BigQuiet
import Derived.BigRegion
import Derived.Deep.AppendSrc
import Derived.Deep.OwnRows
import Derived.Deep.QuietTactic
import Derived.Deep.RegionHeld3
import Derived.Handy
import Derived.LoopTactic
import Derived.Test.YtkkfmkhbdoeglabGreatDoorProg
import Derived.WalkKit
import Derived.WalkLawsBesides
import Derived.WalkSpells
import Derived.WideKeyEntry
import Derived.Test.YtkkfmkhbdoeglabGreatDoorV01
set_option maxHeartbeats 1000000
set_option maxRecDepth 100000
namespace Go.Proofs.YtkkfmkhbdoeglabGreatDoor
open Go renaming World->Q0,Value->Q4,Calls->Rg,TypeId->Ri,Program->Rk
open Go.Ending renaming returned->Ra
open Go.IntKind renaming i64->Y,u8->Rf
open Go.Obj renaming cells->Q1
open Go.RowKit renaming Below->Q8
open Go.Value renaming int->I,pointer->Q5,slice->Q6,string->Q7,iface->Rb,tuple->Rc,bool->Rh,ownBlock->Rl
open Go.World renaming heap->Q,cell?->Rn,alloc->Ro,setCell->Rp
open List renaming length->O,toArray->Rm
open Option renaming none->J,some->N
open _root_.Array renaming size->G
open Go.Proofs.Tryz
open Go.RowKit
variable{B base c cap k n:Nat}{P:Rk}{S:Nat->Prop}{a:Act}{b:Exit->Act->Q0->Prop}{d j:List Q4}{o':Obj}{rest:List Oper}{t:Ri}{v:Q4}{w' w1 w2:Q0}{x y:gw}
def im:Nat:=140737488355000
def l6(l:gw):List Q4:=l.map fun x=>I Rf (x.toNat:Int)
theorem lJ(l:gw):(l6 l).length=O l:=by simp[l6]
theorem oC(l m:gw):l6 (l++m)=l6 l++l6 m:=by simp[l6]
theorem O0(l:gw)(i:Nat)(h:i<O l):(l6 l)[i]?=N (I Rf (l[i].toNat:Int)):=by simp[l6,h]
theorem gK{w:Q0}{a:Addr}(h:Rn w a=N v):a.block<G (Q w):=by
 unfold World.cell? at h;split at h
 .rename_i b;exact(cx.1 b).1
 .cases h
def gE(w:Q0)(v:Q4)(k n:Nat)(d:List Q4):Prop:=
 O d=n*k/\∃a cap,v=Q6 a n cap/\n<=cap/\∀i (h:i<O d),∃b off,a=N ⟨b,off,J⟩/\Rn w ⟨b,off+i,J⟩=N d[i]
def gI(w:Q0)(v:Q4)(l:gw):Prop:=gE w v 1 (O l) (l6 l)
theorem gI.gU{w:Q0}{l:gw}(h:gI w v l):
  ∃a cap,v=Q6 a (O l) cap/\O l<=cap/\∀i (h:i<O l),∃b off,a=N ⟨b,off,J⟩/\Rn w ⟨b,off+i,J⟩=N (I Rf (l[i].toNat:Int)):=by
 obtain⟨_,a,cap,rfl,hc,j⟩:=h;refine⟨a,cap,rfl,hc,fun i m=>?_⟩;obtain⟨b,off,rfl,d⟩:=j i (by rw[lJ];exact m);exact⟨b,off,rfl,by rw[d];simp[l6]⟩
theorem gI.mk'{w:Q0}{a:Option Addr}{l:gw}(hc:O l<=cap)(m:∀i (h:i<O l),∃b off,a=N ⟨b,off,J⟩/\Rn w ⟨b,off+i,J⟩=N (I Rf (l[i].toNat:Int))):
  gI w (Q6 a (O l) cap) l:=by
 refine⟨by simp[l6],a,cap,rfl,hc,fun i j=>?_⟩;obtain⟨b,off,rfl,d⟩:=m i (by rw[lJ]at j;exact j);exact⟨b,off,rfl,by rw[d];simp[l6]⟩
theorem gE.frame{w:Q0}(h:gE w v k n j)(l:∀b,Rl v=N b->b<G (Q w)->w'.heap[b]?=w.heap[b]?):gE w' v k n j:=by obtain⟨hl,a,cap,rfl,hc,m⟩:=h;refine⟨hl,a,cap,rfl,hc,fun i o=>?_⟩;obtain⟨b,off,rfl,d⟩:=m i o;exact⟨b,off,rfl,(aS (w:=w) (l b rfl (gK d))).trans d⟩
theorem gE.below{w:Q0}(h:gE w v k n d)(j:Q8 (G (Q w)) w w'):gE w' v k n d:=
 h.frame fun b _ i=>j.block b i
theorem gI.below{w:Q0}{l:gw}(h:gI w v l)(b:Q8 (G (Q w)) w w'):gI w' v l:=gE.below h b
theorem gE.nil(w:Q0)(a:Option Addr)(k cap:Nat):gE w (Q6 a 0 cap) k 0 []:=⟨by simp,a,cap,rfl,aJ _,fun i h=>absurd h (by simp)⟩
theorem gI.nil(w:Q0)(a:Option Addr)(cap:Nat):gI w (Q6 a 0 cap) []:=gE.nil w a 1 cap
theorem gE.src{w:Q0}{m o:Ri}(hk:P.underlying m=N (.slice o))(h:gE w v k n d)(h1:∀u∈d,u.oneCell'=true):Src P k m v n d w:=by
 obtain⟨hl,a,cap,rfl,hc,i⟩:=h;cases a with
 | none=>
  have:d=[]:=by
   cases d with
   | nil=>rfl
   | cons x d=>obtain⟨b,off,B,_⟩:=i 0 (by simp);cases B
  subst this;have C:(Builtin.firstCells k n (Q6 J n cap)).run P w=.ok ([]:List Q4).toArray w:=fI w k n n cap;have q:(Builtin.firstCells k n (Q6 J n cap)).run P w.drew=.ok ([]:List Q4).toArray w.drew:=fI w.drew k n n cap;exact⟨.inl ⟨o,hk⟩,fun _=>rfl,C,q,hl,h1⟩
 | some a=>
  by_cases r:d=[]
  .subst r;exact Src.ofSlice w hk a n cap [] hl (fun j u l=>by simp at l) h1
  .obtain⟨b,off,ha,_⟩:=i 0 (List.length_pos_iff.2 r);obtain rfl:=Option.some.inj ha;refine Src.ofSlice w hk _ n cap d hl (fun j u l=>?_) h1;obtain⟨D,E⟩:=aH.1 l;obtain⟨M,F,s,y⟩:=i j D;cases s;rw[<-E];rw[fC];exact y
def gS(w:Q0)(base k:Nat)(v:Q4)(n:Nat)(b:List Q4):Prop:=
 O b=n*k/\
 ((v=Q6 J 0 0/\n=0)\/
  ∃g off cap,v=Q6 (N ⟨g,off,J⟩) n cap/\base<=g/\g<G (Q w)/\n<=cap/\cap<=maxLen/\
   (∀i (h:i<O b),Rn w ⟨g,off+i,J⟩=N b[i])/\
   (∀i,i<cap*k->(Rn w ⟨g,off+i,J⟩).isSome=true/\w.frozen? ⟨g,off+i,J⟩=false))
theorem gS.sliceAt{w:Q0}{b:List Q4}(h:gS w base k v n b):gE w v k n b:=by
 obtain⟨hl,⟨rfl,rfl⟩|⟨g,off,cap,rfl,_,_,d,_,hc,_⟩⟩:=h
 .obtain rfl:b=[]:=ch (by simpa using hl);exact gE.nil w J k 0
 .exact⟨hl,_,cap,rfl,d,fun i j=>⟨g,off,rfl,hc i j⟩⟩
theorem gS.nil(w:Q0)(base k:Nat):gS w base k (Q6 J 0 0) 0 []:=⟨by simp,.inl ⟨rfl,rfl⟩⟩
theorem gS.mono{w:Q0}{b:Nat}(h:gS w base k v n d)(i:b<=base):gS w b k v n d:=by
 obtain⟨hl,h|⟨g,off,cap,rfl,j,r⟩⟩:=h
 .exact⟨hl,.inl h⟩
 .exact⟨hl,.inr ⟨g,off,cap,rfl,au i j,r⟩⟩
theorem gS.frame{w:Q0}(h:gS w base k v n j)(s:G (Q w)<=G (Q w'))(m:∀b,Rl v=N b->b<G (Q w)->w'.heap[b]?=w.heap[b]?):gS w' base k v n j:=by
 obtain⟨hl,h|⟨g,off,cap,rfl,o,l,q,hm,hc,r⟩⟩:=h
 .exact⟨hl,.inl h⟩
 .have e:=m g rfl l;refine⟨hl,.inr ⟨g,off,cap,rfl,o,by omega,q,hm,fun i d=>?_,fun i d=>?_⟩⟩
  .rw[aS (a:=⟨g,off+i,J⟩) e];exact hc i d
  .rw[aS (a:=⟨g,off+i,J⟩) e,dj (a:=⟨g,off+i,J⟩) e];exact r i d
theorem gS.below{w:Q0}(h:gS w base k v n d)(i:Q8 (G (Q w)) w w'):gS w' base k v n d:=
 h.frame i.size fun b _ j=>i.block b j
theorem gS.grown{w:Q0}{row:Option Nat}(h:gS w base k v n d)(i:w.grownBy w' row)(l:∀b,Rl v=N b->row≠N b):gS w' base k v n d:=
 h.frame i.size fun b m j=>i.block b j (fun e=>l b m e.symm)
theorem gE.grown{w:Q0}{row:Option Nat}(h:gE w v k n d)(j:w.grownBy w' row)(l:∀b,Rl v=N b->row≠N b):gE w' v k n d:=
 h.frame fun b m i=>j.block b i (fun e=>l b m e.symm)
theorem gB(w:Q0)(o:Obj):(Ro w o).heap[G (Q w)]?=N o:=by show(w.heap.push o)[G (Q w)]?=_;simp
theorem pK(w:Q0)(C:Array Q4)(e:Ri)(b:Nat×Nat)(i:Nat):(Ro w (Q1 C e b)).cell? ⟨G (Q w),i,J⟩=C[i]?:=by unfold World.cell?;simp only[gB];rfl
theorem II(w:Q0)(C:Array Q4)(e:Ri)(lo b i:Nat):(Ro w (Q1 C e (lo,b))).frozen? ⟨G (Q w),i,J⟩=(decide (lo<=i)&&decide (i<b)):=by unfold World.frozen?;simp only[gB]
theorem gS.new(w:Q0)(C:Array Q4)(e:Ri)(lo d:Nat)(base k n cap:Nat)(l:base<=G (Q w))(j:n<=cap)(hm:cap<=maxLen)(o:cap*k<=C.size)(q:d<=lo\/cap*k<=lo):
  gS (Ro w (Q1 C e (lo,d))) base k (Q6 (N ⟨G (Q w),0,J⟩) n cap) n (C.toList.take (n*k)):=by
 have m:n*k<=cap*k:=cQ _ j;refine⟨by rw[ax,ei];omega,.inr ⟨G (Q w),0,cap,rfl,l,by simp,j,hm,fun i b=>?_,fun i b=>?_⟩⟩
 .rw[bY,pK];rw[ax,ei]at b;have:i<C.size:=by omega
  simp[this]
 .rw[bY,pK,II];have:i<C.size:=by omega
  refine⟨by simp[this],?_⟩;simp only[Bool.and_eq_false_iff,decide_eq_false_iff_not];omega
theorem wh(b:Nat):∀(d:List Q4) (o:Nat) (w:Q0) (j:Nat),j≠b->(w.setCells b o d).heap[j]?=w.heap[j]?
 | [],_,_,_,_=>rfl
 | v::d,o,w,j,h=>by simp only[World.setCells];rw[wh b d _ _ j h];exact Below.heap_setCell w ⟨b,o,J⟩ v j h
theorem oW(b:Nat):∀(d:List Q4) (o:Nat) (w:Q0),(w.setCells b o d).heap.size=G (Q w)
 | [],_,_=>rfl
 | v::d,o,w=>by simp only[World.setCells];rw[oW b d];simp[World.setCell]
theorem tp(b:Nat):∀(d:List Q4) (o:Nat) (w:Q0),(w.setCells b o d).os=w.os/\(w.setCells b o d).tape=w.tape/\(w.setCells b o d).output=w.output
 | [],_,_=>⟨rfl,rfl,rfl⟩
 | v::d,o,w=>by simp only[World.setCells];exact tp b d (o+1) (Rp w ⟨b,o,J⟩ v)
theorem qd(w:Q0)(b o:Nat)(d:List Q4):w.grownBy (w.setCells b o d) (N b):=
 have h:=tp b d o w
 ⟨h.1,h.2.1,h.2.2,Nat.le_of_eq (oW b d o w).symm,fun k _ hk=>wh b d o w k (fun e=>hk (by rw[e]))⟩
theorem my(w:Q0)(base:Nat)(t D ty e:Ri)(i:TypeInfo)(z:Q4)(V:P.underlying t=N (.slice e))(W:P.info? e=N i)(hz:i.zero=N z)(ak:z.cells.size=i.size)(_hsz:0<i.size)(v:Q4)(n:Nat)(d:List Q4)(q:gS w base i.size v n d)(x:Q4)(m:Nat)(b:List Q4)(s:Src P i.size D x m b w)(al:n+m<=maxLen)(E:(n+m)*i.bytes<=140737488355328)(R:base<=G (Q w)):
  ∃v' w',(Builtin.append_ #[t,D] ty #[v,x]).run P w=.ok v' w'/\gS w' base i.size v' (n+m) (d++b)/\w.grownBy w' (Rl v)/\
   ((∃g off cap,v=Q6 (N ⟨g,off,J⟩) n cap/\v'=Q6 (N ⟨g,off,J⟩) (n+m) cap/\w'=w.setCells g (off+n*i.size) b)\/v'=Q6 J 0 0\/∃cap,v'=Q6 (N ⟨G (Q w),0,J⟩) (n+m) cap/\Q8 (G (Q w)) w w'):=by
 have hmx:maxLen=9223372036854775807:=rfl;have B:(d++b).length=(n+m)*i.size:=by rw[ab,q.1,s.newsLen,Nat.add_mul]
 have grown:∀(l:Option Addr) (iI:Nat),iI<n+m->(Builtin.firstCells i.size n (Q6 l n iI)).run P w.drew=.ok (Rm d) w.drew->∀(row:Option Nat),
   ∃v' w',(Builtin.append_ #[t,D] ty #[Q6 l n iI,x]).run P w=.ok v' w'/\gS w' base i.size v' (n+m) (d++b)/\w.grownBy w' row/\∃cap,v'=Q6 (N ⟨G (Q w),0,J⟩) (n+m) cap/\Q8 (G (Q w)) w w':=by
  intro l iI ho F row;have X:=run_append_grow_src (P:=P) w t D ty e i z V W hz l n iI d F x m b s ho (by omega) (growslice_fits ho E);have ap:=grownCap_ge w (n+m) iI e;have M:grownCap w (n+m) iI e<=maxLen:=grownCap_le_maxLen w (n+m) iI e al;refine⟨_,_,X,?_,⟨rfl,rfl,rfl,by simp,fun k hk _=>heap_alloc_old w.drew _ hk⟩,_,rfl,⟨rfl,rfl,rfl,by simp,fun k hk=>heap_alloc_old w.drew _ hk⟩⟩;have hC:((d++b).toArray++Builtin.zeroCells z.cells (grownCap w (n+m) iI e-(n+m))).size=grownCap w (n+m) iI e*i.size:=by rw[Array.size_append,dG,B,size_zeroCells,ak,<-Nat.add_mul];congr 1;omega
  have:=gS.new w.drew ((d++b).toArray++Builtin.zeroCells z.cells (grownCap w (n+m) iI e-(n+m))) e 0 0 base i.size (n+m) (grownCap w (n+m) iI e) R ap M (Nat.le_of_eq hC.symm) (.inl gH);have e1:((d++b).toArray++Builtin.zeroCells z.cells (grownCap w (n+m) iI e-(n+m))).toList.take ((n+m)*i.size)=d++b:=by rw[Array.toList_append,<-B];exact eE
  rw[e1]at this;exact this
 obtain⟨S,q⟩:=q;rcases q with ⟨rfl,rfl⟩|⟨g,off,cap,rfl,av,aE,a9,M,C,o⟩
 .have hx:d=[]:=ch (by simpa using S);subst hx;by_cases hm:m=0
  .subst hm;have hn:b=[]:=ch (by simpa using s.newsLen);subst hn;refine⟨Q6 J 0 0,w,?_,gS.nil w base i.size,⟨rfl,rfl,rfl,aq _,fun _ _ _=>rfl⟩,.inr (.inl rfl)⟩;have hl:=s.len w;have hc:=s.cells;rcases s.kind with ⟨e',hk⟩|hk<;>simp[Builtin.append_,aO V,aO hk,sizeOf,typeInfo,W,hl,hc]
  .obtain⟨v',w',h1,Z,h3,h4⟩:=grown J 0 (by omega) (fI w.drew i.size 0 0 0) J;exact⟨v',w',h1,Z,h3,.inr (.inr h4)⟩
 .by_cases r:n+m<=cap
  .have ba:n*i.size+O b<=cap*i.size:=by rw[s.newsLen,<-Nat.add_mul];exact cQ _ r
   have hc:∀j,j<O b->(Rn w ⟨g,off+n*i.size+j,J⟩).isSome=true:=fun j y=>by have:=(o (n*i.size+j) (by omega)).1;rw[bT];exact this
   have F:∀j,j<O b->w.frozen? ⟨g,off+n*i.size+j,J⟩=false:=fun j y=>by have:=(o (n*i.size+j) (by omega)).2;rw[bT];exact this
   have X:=run_append_room_src (P:=P) w t D ty e i V W g off n cap x m b s r hc F;refine⟨_,_,X,⟨B,.inr ⟨g,off,cap,rfl,av,by rw[oW];exact aE,r,M,fun j y=>?_,fun j y=>?_⟩⟩,qd w g _ _,.inl ⟨g,off,cap,rfl,rfl,rfl⟩⟩
   .by_cases U:j<O d
    .rw[World.cell?_setCells_out g b (off+n*i.size) w ⟨g,off+j,J⟩ (fun _ _=>.inl (by simp only;omega)),C j U,dr U]
    .have a0:j-(O d)<O b:=by rw[ab]at y;omega
     have:=World.cell?_setCells_in g b (off+n*i.size) w hc (j-(O d)) a0;rw[show off+n*i.size+(j-(O d))=off+j by omega]at this;rw[this,eu (by omega)]
   .rw[World.frozen?_setCells];refine⟨?_,(o j y).2⟩;by_cases a6:off+n*i.size<=off+j/\off+j<off+n*i.size+O b
    .have:=World.cell?_setCells_in g b (off+n*i.size) w hc (j-n*i.size) (by omega);rw[show off+n*i.size+(j-n*i.size)=off+j by omega]at this;rw[this];rfl
    .rw[World.cell?_setCells_out g b (off+n*i.size) w ⟨g,off+j,J⟩ (fun _ _=>by simp only;omega)];exact(o j y).1
  .have F:(Builtin.firstCells i.size n (Q6 (N ⟨g,off,J⟩) n cap)).run P w.drew=.ok (Rm d) w.drew:=by
    refine run_firstCells_some w.drew i.size n ⟨g,off,J⟩ n cap d S (fun j u hu=>?_);obtain⟨y,hv⟩:=aH.1 hu;rw[<-hv];rw[fC];exact C j y
   obtain⟨v',w',h1,Z,h3,h4⟩:=grown (N ⟨g,off,J⟩) cap (by omega) F (N g);exact⟨v',w',h1,Z,h3,.inr (.inr h4)⟩
theorem sD{o:Oper}{K:Act->Q0->Prop}{w:Q0}(s x:Operand)(t q:Ri)(D:o.op=.call {callee:=.builtin .append,args:=#[s,x],argTypes:=#[t,q]})(base k:Nat)(e:Ri)(i:TypeInfo)(z:Q4)(E:P.underlying t=N (.slice e))(F:P.info? e=N i)(M:i.zero=N z)(hk:i.size=k)(y:z.cells.size=i.size)(B:0<i.size)(v:Q4)(n:Nat)(r:List Q4)(R:a.eval s=v)(u:gS w base k v n r)(m:Nat)(d:List Q4)(S:Src P k q (a.eval x) m d w)(C:n+m<=maxLen)(j:(n+m)*i.bytes<=140737488355328)(l:base<=G (Q w))(h:∀v' w',gS w' base k v' (n+m) (r++d)->w.grownBy w' (Rl v)->
    ((∃g off cap,v=Q6 (N ⟨g,off,J⟩) n cap/\v'=Q6 (N ⟨g,off,J⟩) (n+m) cap/\w'=w.setCells g (off+n*k) d)\/v'=Q6 J 0 0\/∃cap,v'=Q6 (N ⟨G (Q w),0,J⟩) (n+m) cap/\Q8 (G (Q w)) w w')->
    K (a.put o.dst v') w'):o.wp P a w K b:=by
 subst hk;obtain⟨v',w',U,h1,V,W⟩:=my (P:=P) w base t q o.type e i z E F M y B v n r u (a.eval x) m d S C j l;unfold Oper.wp execOp;simp only[D,resolve,invoke,builtin,cI,fF,cz,eH,bG,dM,R,U];exact h v' w' h1 V W
theorem nO{iS:Array Oper}{o:Oper}{w:Q0}(y:o.guard=J)(s x:Operand)(t q:Ri)(E:o.op=.call {callee:=.builtin .append,args:=#[s,x],argTypes:=#[t,q]})(base k:Nat)(e:Ri)(i:TypeInfo)(z:Q4)(F:P.underlying t=N (.slice e))(M:P.info? e=N i)(R:i.zero=N z)(hk:i.size=k)(B:z.cells.size=i.size)(C:0<i.size)(v:Q4)(n:Nat)(r:List Q4)(S:a.eval s=v)(u:gS w base k v n r)(m:Nat)(d:List Q4)(U:Src P k q (a.eval x) m d w)(D:n+m<=maxLen)(j:(n+m)*i.bytes<=140737488355328)(l:base<=G (Q w))(h:∀v' w',gS w' base k v' (n+m) (r++d)->w.grownBy w' (Rl v)->
    ((∃g off cap,v=Q6 (N ⟨g,off,J⟩) n cap/\v'=Q6 (N ⟨g,off,J⟩) (n+m) cap/\w'=w.setCells g (off+n*k) d)\/v'=Q6 J 0 0\/∃cap,v'=Q6 (N ⟨G (Q w),0,J⟩) (n+m) cap/\Q8 (G (Q w)) w w')->
    wpList P iS b rest (a.put o.dst v') w'):wpList P iS b (o::rest) a w:=by
 subst hk;obtain⟨v',w',V,h1,W,X⟩:=my (P:=P) w base t q o.type e i z F M R B C v n r u (a.eval x) m d U D j l;refine eN y fun K hK=>?_;unfold Oper.wp execOp;simp only[E,resolve,invoke,builtin,cI,fF,cz,eH,bG,dM,S,V];exact hK _ _ (h v' w' h1 W X)
theorem sw(l:gw):∀u∈l6 l,u.oneCell'=true:=by intro u b;obtain⟨x,_,rfl⟩:=aA.1 b;rfl
theorem gS.bytes{w:Q0}{l:gw}(h:gS w base 1 v n (l6 l)):gI w v l:=by
 have b:n=O l:=by have:=h.1;rw[lJ]at this;omega
 subst b;exact h.sliceAt
theorem gS.ie{w:Q0}(h:gS w base k v n d):∀g,Rl v=N g->base<=g:=by
 intro g b;obtain⟨_,⟨rfl,_⟩|⟨g',off,cap,rfl,i,_⟩⟩:=h
 .cases b
 .cases b;exact i
theorem jF{w:Q0}(h:gS w base k v n d)(i:w.grownBy w' (Rl v))(b:base<=G (Q w)):Q8 base w w':=
 (Below.refl base w).grown i b h.ie
theorem wN:(prog.info? 5).map (fun i=>(i.zero,i.size,i.bytes))=N (N (I Rf 0),1,1):=by kernel_rfl
theorem qp{iS:Array Oper}{o:Oper}{w:Q0}(q:o.guard=J)(s x:Operand)(B:o.op=.call {callee:=.builtin .append,args:=#[s,x],argTypes:=#[112,112]})(base:Nat)(v:Q4)(n:Nat)(l:gw)(C:a.eval s=v)(i:gS w base 1 v n (l6 l))(m:gw)(D:gI w (a.eval x) m)(E:n+O m<=140737488355328)(d:base<=G (Q w))(h:∀v' w',gS w' base 1 v' (n+O m) (l6 (l++m))->w.grownBy w' (Rl v)->Q8 base w w'->
    wpList prog iS b rest (a.put o.dst v') w'):wpList prog iS b (o::rest) a w:=by
 obtain⟨i0,F,r,j,u⟩:=dE wN;have hmx:maxLen=9223372036854775807:=rfl;refine nO q s x _ _ B base 1 5 i0 (I Rf 0) underlying112 F r j (by rw[j];rfl) (by omega) v n (l6 l) C i (O m) (l6 m) (D.src underlying112 (sw m)) (by omega) (by rw[u];omega) d (fun v' w' h1 y _=>?_);rw[<-oC]at h1;exact h v' w' h1 y (jF i y d)
theorem gI.sub{w:Q0}{b off:Nat}{l:gw}(h:gI w (Q6 (N ⟨b,off,J⟩) (O l) cap) l)(i j:Nat)(q:i<=j)(r:j<=O l):
  gI w (Q6 (N ⟨b,off+i,J⟩) (j-i) (cap-i)) ((l.take j).drop i):=by
 obtain⟨a,cap',he,hc,m⟩:=h.gU;cases he;have hl:((l.take j).drop i).length=j-i:=by simp;omega
 rw[<-hl];refine gI.mk' (by omega) fun k hk=>⟨b,off+i,rfl,?_⟩;obtain⟨s,o,ha,d⟩:=m (i+k) (by omega);cases ha;rw[bT,d];simp
theorem gI.left{w:Q0}{b off:Nat}(h:gI w (Q6 (N ⟨b,off,J⟩) n cap) (x++y)):gI w (Q6 (N ⟨b,off,J⟩) (O x) cap) x:=by obtain⟨a,cap',he,hc,i⟩:=h.gU;cases he;simp only[ab]at hc;refine gI.mk' (by omega) fun k hk=>⟨b,off,rfl,?_⟩;obtain⟨l,j,ha,d⟩:=i k (by simp;omega);cases ha;rw[d,dr hk]
theorem gI.right{w:Q0}{b off:Nat}(h:gI w (Q6 (N ⟨b,off,J⟩) n cap) (x++y)):gI w (Q6 (N ⟨b,off+O x,J⟩) (O y) (cap-(O x))) y:=by obtain⟨a,cap',he,hc,i⟩:=h.gU;cases he;simp only[ab]at hc;refine gI.mk' (by omega) fun k hk=>⟨b,off+O x,rfl,?_⟩;obtain⟨l,j,ha,d⟩:=i (O x+k) (by simp;omega);cases ha;rw[bT,d,eu (by omega)];simp
theorem gI.convert{w:Q0}{l:gw}(h:gI w v l):(convert 112 9 v).run prog w=.ok (Q7 ⟨Rm l⟩) w:=by
 obtain⟨a,cap,rfl,hc,i⟩:=h.gU;cases a with
 | none=>
  have m:l=[]:=by
   cases l with
   | nil=>rfl
   | cons x l=>obtain⟨b,off,o,_⟩:=i 0 (by simp);cases o
  subst m;exact run_convert_bytes_nil (P:=prog) w 112 5 underlying112 underlying5 0 cap 9 underlying9
 | some a=>refine run_convert_bytes_back w 112 9 5 a cap l underlying112 underlying5 underlying9 fun j q=>?_;obtain⟨s,r,ha,d⟩:=i j q;cases ha;rw[fC];exact d
theorem gI.drewN{w:Q0}{l:gw}(h:gI w v l)(n:Nat):gI (w.drewN n) v l:=h
theorem Cf{iS:Array Oper}{o:Oper}{K:Act->Q0->Prop}{E:Prop}{w:Q0}(q:o.guard=J)(s x:Operand)(B:o.op=.call {callee:=.builtin .append,args:=#[s,x],argTypes:=#[112,112]})(base:Nat)(v:Q4)(n:Nat)(l:gw)(C:a.eval s=v)(i:gS w base 1 v n (l6 l))(m:gw)(D:gI w (a.eval x) m)(F:n+O m<=140737488355328)(d:base<=G (Q w))(h:∀v' w',gS w' base 1 v' (n+O m) (l6 (l++m))->w.grownBy w' (Rl v)->Q8 base w w'->
    K (a.put o.dst v') w'):if Region.wanted o (yielded iS a.tmps)=true then Oper.wp prog o a w K b else E:=by
 have M:Region.wanted o (yielded iS a.tmps)=true:=by simp[Region.wanted,q]
 rw[aw M];obtain⟨i0,R,r,j,u⟩:=dE wN;have hmx:maxLen=9223372036854775807:=rfl;refine sD s x _ _ B base 1 5 i0 (I Rf 0) underlying112 R r j (by rw[j];rfl) (by omega) v n (l6 l) C i (O m) (l6 m) (D.src underlying112 (sw m)) (by omega) (by rw[u];omega) d (fun v' w' h1 y _=>?_);rw[<-oC]at h1;exact h v' w' h1 y (jF i y d)
theorem _root_.Go.RowKit.Below.drewN{a w:Q0}(h:Q8 B a w)(n:Nat):Q8 B a (w.drewN n):=⟨h.os,h.tape,h.output,h.size,h.block⟩
theorem E5{k:IntKind}{a b:Int}(h:a=b):Ra (I k a)=Ra (I k b):=by rw[h]
theorem gW(j:P.underlying t=N .string)(l:gw)(k:IntKind)(i:Int)(x:UInt8)(m:0<=i)(o:l[i.toNat]?=N x)(w:Q0):
  (Instr.index t (Q7 ⟨Rm l⟩) (I k i)).run P w=.ok (I Rf (x.toNat:Int)) w:=by
 obtain⟨b,q⟩:=aH.1 o;rw[run_index_string w t ⟨Rm l⟩ k i j];have d:(⟨Rm l⟩:ByteArray).size=O l:=by simp[ByteArray.size]
 rw[dif_pos ⟨m,by rw[d];omega⟩];have:(⟨Rm l⟩:ByteArray)[i.toNat]'(by rw[d];exact b)=x:=by rw[<-q];rfl
 rw[this]
structure gR(S:Nat->Prop)(w w':Q0):Prop where
 os:w'.os=w.os
 tape:w'.tape=w.tape
 output:w'.output=w.output
 size:G (Q w)<=G (Q w')
 block:∀k,k<G (Q w)->¬S k->w'.heap[k]?=w.heap[k]?
theorem gR.refl(S:Nat->Prop)(w:Q0):gR S w w:=⟨rfl,rfl,rfl,aq _,fun _ _ _=>rfl⟩
theorem gR.trans{a b c:Q0}(h:gR S a b)(k:gR S b c):gR S a c:=
 ⟨k.os.trans h.os,k.tape.trans h.tape,k.output.trans h.output,au h.size k.size,fun i d j=>(k.block i (ae d h.size) j).trans (h.block i d j)⟩
theorem gR.j8{a b c:Q0}{T:Nat->Prop}(h:gR S a b)(k:gR T b c)(l:∀i,T i->S i\/G (Q a)<=i):gR S a c:=
 ⟨k.os.trans h.os,k.tape.trans h.tape,k.output.trans h.output,au h.size k.size,fun i d j=>(k.block i (ae d h.size) (fun e=>(l i e).elim j (fun e=>by omega))).trans (h.block i d j)⟩
theorem gR.mono{T:Nat->Prop}{w:Q0}(h:gR S w w')(b:∀k,S k->T k):gR T w w':=⟨h.os,h.tape,h.output,h.size,fun k hk d=>h.block k hk (fun e=>d (b k e))⟩
theorem gR.iN{w:Q0}(h:Q8 B w w'):gR (fun k=>B<=k) w w':=⟨h.os,h.tape,h.output,h.size,fun k _ b=>h.block k (by omega)⟩
theorem gR.gO{w:Q0}(h:Q8 (G (Q w)) w w'):gR S w w':=⟨h.os,h.tape,h.output,h.size,fun k hk _=>h.block k hk⟩
theorem gR.below{w:Q0}(h:gR S w w')(d:B<=G (Q w))(b:∀k,k<B->¬S k):Q8 B w w':=⟨h.os,h.tape,h.output,h.size,fun k hk=>h.block k (by omega) (b k hk)⟩
theorem gR.cell{S:Nat->Prop}{w w':Q0}(h:gR S w w'){p:Addr}{v:Q4}(b:¬S p.block)(hc:Rn w p=N v):Rn w' p=N v:=
 (aS (w:=w) (h.block p.block (gK hc) b)).trans hc
theorem gm{w:Q0}{b:Nat}{o:Obj}(h:w.heap[b]?=N o):b<G (Q w):=(cx.1 h).1
theorem gR.at{w:Q0}(h:gR S w w'){b:Nat}{o:Obj}(i:¬S b)(d:w.heap[b]?=N o):w'.heap[b]?=N o:=(h.block b (gm d) i).trans d
theorem gC{w:Q0}(h:Q8 B w w'){b:Nat}{o:Obj}(d:b<B)(i:w.heap[b]?=N o):w'.heap[b]?=N o:=(h.block b d).trans i
theorem _root_.Go.RowKit.Below.tn{w:Q0}(h:Q8 (G (Q w)) w w1)(k:Q8 (G (Q w1)) w1 w2):Q8 (G (Q w)) w w2:=h.trans (k.mono h.size)
theorem _root_.Go.RowKit.Below.al{w:Q0}(h:Q8 (G (Q w)) w w1)(o:Obj):Q8 (G (Q w)) w (Ro w1 o):=h.alloc h.size o
theorem _root_.Go.RowKit.Below.rf(w:Q0):Q8 (G (Q w)) w w:=gJ w
theorem QN(w:Q0)(b o:Nat)(v:Q4){C:Array Q4}{T:Ri}{d:Nat×Nat}(h:w.heap[b]?=N (Q1 C T d)):
  (Rp w ⟨b,o,J⟩ v).heap[b]?=N (Q1 (C.setIfInBounds o v) T d):=by
 simp only[World.setCell,fj,aw,h];rfl
theorem QO(w:Q0)(a:Addr)(v:Q4):(Rp w a v).heap.size=G (Q w):=by simp[World.setCell]
theorem gR.setCell{a w:Q0}(h:gR S a w)(p:Addr)(v:Q4)(b:S p.block\/G (Q a)<=p.block):gR S a (Rp w p v):=
 h.j8 (T:=fun k=>k=p.block) ⟨rfl,rfl,rfl,by rw[QO];exact aq _,fun k _ d=>Below.heap_setCell w p v k d⟩ (fun i e=>by rw[e];exact b)
theorem gR.alloc{a w:Q0}(h:gR S a w)(o:Obj):gR S a (Ro w o):=h.trans (gR.gO ((gJ w).alloc gH o))
theorem gR.drewN{a w:Q0}(h:gR S a w)(n:Nat):gR S a (w.drewN n):=⟨h.os,h.tape,h.output,h.size,h.block⟩
theorem gR.drew{a w:Q0}(h:gR S a w):gR S a w.drew:=⟨h.os,h.tape,h.output,h.size,h.block⟩
theorem gP(w:Q0)(o:Obj){b:Nat}{x:Obj}(h:w.heap[b]?=N x):(Ro w o).heap[b]?=N x:=(Below.heap_alloc w o b (gm h)).trans h
theorem gE.jR{w:Q0}(h:gE w v k n d)(p:Addr)(u:Q4)(i:Rl v≠N p.block):gE (Rp w p u) v k n d:=
 h.frame fun b j _=>Below.heap_setCell w p u b (fun e=>i (by rw[j,e]))
theorem gI.jR{w:Q0}{l:gw}(h:gI w v l)(p:Addr)(u:Q4)(b:Rl v≠N p.block):gI (Rp w p u) v l:=gE.jR h p u b
theorem gS.pV{w:Q0}(h:gS w base k v n d){b:Nat}(i:b<base):Rl v≠N b:=fun e=>by have:=h.ie b e;omega
def kM(w:Q0):Prop:=2<=G (Q w)/\Rn w ⟨0,0,J⟩=N (Rb 286 (.agg #[Q5 (N ⟨2,128,J⟩)]))
theorem kM.below{w:Q0}(h:kM w)(b:Q8 B w w')(d:2<=B):kM w':=
 ⟨au h.1 b.size,(b.cell (p:=⟨0,0,J⟩) (ae (by decide:0<2) d)).trans h.2⟩
theorem kM.ext{w:Q0}(h:kM w)(b:gR S w w')(d:∀k,S k->2<=k):kM w':=
 ⟨au h.1 b.size,b.cell (p:=⟨0,0,J⟩) (fun e=>absurd (d _ e) (by decide)) h.2⟩
theorem kM.new{w:Q0}(h:kM w)(b:Q8 (G (Q w)) w w'):kM w':=h.below b h.1
theorem OX{w:Q0}(m:gw):Src prog 1 9 (Q7 ⟨Rm m⟩) (O m) (l6 m) w:=by
 have h:=Src.ofString (P:=prog) (w:=w) underlying9 ⟨Rm m⟩;have b:(⟨Rm m⟩:ByteArray).size=O m:=by simp[ByteArray.size]
 have d:byteCells ⟨Rm m⟩=l6 m:=by simp[byteCells,l6]
 rw[b,d]at h;exact h
theorem gI.src{w:Q0}{m:gw}(h:gI w v m):Src prog 1 112 v (O m) (l6 m) w:=gE.src underlying112 h (sw m)
theorem PX(w:Q0)(x y:UInt8)(a b:Int)(d:(x.toNat:Int)=a)(i:(y.toNat:Int)=b):gI (Ro w (Q1 #[I Rf a,I Rf b] 5)) (Q6 (N ⟨G (Q w),0,J⟩) 2 2) [x,y]:=by subst d i;exact(gS.new w #[I Rf (x.toNat:Int),I Rf (y.toNat:Int)] 5 0 0 0 1 2 2 ux (by omega) (by decide) (by simp) (.inl (by omega))).bytes (l:=[x,y])
theorem gS.iA{w:Q0}{i:List Q4}(h:gS w base k v n i):∀g,Rl v=N g->g<G (Q w):=by
 intro g b;obtain⟨_,⟨rfl,_⟩|⟨g',off,cap,rfl,j,d,_⟩⟩:=h
 .cases b
 .cases b;exact d
theorem lR{w:Q0}(i:w.grownBy w' (Rl v)){b:Nat}{o:Obj}(d:Rl v≠N b)(h:w.heap[b]?=N o):w'.heap[b]?=N o:=
 (i.block b (cx.1 h).1 (fun e=>d e.symm)).trans h
theorem iK{w:Q0}{a:Addr}(o:Obj)(h:Rn w a=N v):(Ro w o).cell? a=N v:=
 (aS (w:=w) (heap_alloc_old w o (gK h))).trans h
theorem IL(b:Nat)(m:b<256)(w:Q0):
  Rg prog 185 #[I Rf b] w fun e w'=>e=Ra (I .u32 (nl 8 b))/\w=w':=by
 go_enter func185,ntmps185;go_wp2;go_loop [3,7] (fun c i=>∃k:Nat,k<=8/\i=I Y k/\c=I .u32 (nl k b)) (fun _ i=>8-(intOf i).toNat)
 case atStart=>exact⟨0,by omega,rfl,by simp[nl]⟩
 case round=>
  obtain⟨k,hk,rfl,rfl⟩:=hrel;by_cases h:k<8
  .have j:=ye k b (by omega);have l:nl (k+1) b=rS (nl k b):=rfl;have H:=gj l;clear l;generalize nl k b=c at *
   have ha:bits BinOp.and IntKind.u32 (c:Int) 1=((c%2:Nat):Int):=by rw[show(1:Int)=((1:Nat):Int)from rfl,u32_and_nat c 1 j (by decide),nat_mask1]
   have q:bits BinOp.xor IntKind.u32 ((c:Int) / 2) 3988292384=(((c / 2) ^^^ 3988292384:Nat):Int):=by rw[show(3988292384:Int)=((3988292384:Nat):Int)from rfl,show((c:Int) / 2)=((c / 2:Nat):Int) by omega,u32_xor_nat (c / 2) _ (by omega) (by decide)]
   go_wp2
   .rename_i h1;have d:c%2=1:=by have:=aT.1 h1;omega
    go_round
    case rel=>exact⟨k+1,by omega,by go_num,by rw[H.o,rS,aw d]⟩
    case measure=>simp[intOf];omega
   .rename_i h1;have d:¬c%2=1:=by have:=ar.1 h1;omega
    go_round
    case rel=>exact⟨k+1,by omega,by go_num,by rw[H.o,rS,af d];go_num⟩
    case measure=>simp[intOf];omega
  .obtain rfl:k=8:=by omega
   go_wp2;go_ret;exact⟨by rfl,rfl⟩
theorem NR(c:Nat)(x:UInt8):nl 8 ((c%256) ^^^ x.toNat) ^^^ (c / 256)=nl 8 (c ^^^ x.toNat):=(KQ c x.toNat).symm
theorem xw(c:Nat)(l:gw)(k:Nat)(h:k<O l):nT c (l.take (k+1))=nl 8 (nT c (l.take k) ^^^ l[k].toNat):=by rw[aC h,Eu]
theorem Kw(v:Q4)(l:gw)(w:Q0)(q:gI w v l)(hl:O l<=9223372036854775807):
  Rg prog 149 #[v] w fun e w'=>e=Ra (I .u32 (Cp l))/\w=w':=by
 obtain⟨a,cap,rfl,r,d⟩:=q.gU;have s:=gj d;clear d;go_enter func149,ntmps149;go_wp2;go_loop [3,8] (fun c i=>∃k:Nat,k<=O l/\i=I Y k/\c=I .u32 (nT 4294967295 (l.take k))) (fun _ i=>O l-(intOf i).toNat)
 case atStart=>exact⟨0,by omega,rfl,by simp[nT]⟩
 case round=>
  obtain⟨k,hk,rfl,rfl⟩:=hrel;have j:=wL (l.take k) 4294967295 (by decide);by_cases h:k<O l
  .have H:=gj (xw 4294967295 l k h);obtain⟨b,off,rfl,m⟩:=s.o k h;generalize nT 4294967295 (l.take k)=c at *
   have B:=l[k].toNat_lt;have u:c%256 ^^^ l[k].toNat<256:=fc (n:=8) (by omega) (by omega);have x:bits BinOp.xor Rf ((c:Int)%256) (l[k].toNat:Int)=((c%256 ^^^ l[k].toNat:Nat):Int):=by rw[show((c:Int)%256)=((c%256:Nat):Int) by omega,u8_xor_nat _ _ (by omega) (by omega)]
   have y:=ye 8 (c%256 ^^^ l[k].toNat) (by omega);go_wp2_with (go_at_call 185;refine(IL _ u _).mono ?_;rintro e w' ⟨rfl,rfl⟩);go_round
   case rel=>refine⟨k+1,by omega,by go_num,?_⟩;rw[show((c:Int) / 256)=((c / 256:Nat):Int) by omega,u32_xor_nat _ _ y (by omega),NR,H.o]
   case measure=>simp[intOf];omega
  .obtain rfl:k=O l:=by omega
   rw[aM]at *
   go_wp2;go_ret;refine⟨E5 ?_,rfl⟩;rw[show IntKind.u32.max=((4294967295:Nat):Int)from rfl,u32_xor_nat _ _ (by decide) j,Nat.xor_comm];rfl
def j5(a b c d:UInt8):Nat:=a.toNat*16777216+b.toNat*65536+c.toNat*256+d.toNat
theorem Oj(a b c d:UInt8):bits BinOp.or IntKind.u32 (bits BinOp.or IntKind.u32 (bits BinOp.or IntKind.u32 ((a.toNat:Int)*16777216) ((b.toNat:Int)*65536)) ((c.toNat:Int)*256)) (d.toNat:Int)=(j5 a b c d:Int):=by
 have ha:=a.toNat_lt;have m:=b.toNat_lt;have hc:=c.toNat_lt;have o:=d.toNat_lt;have i:a.toNat*16777216 ||| b.toNat*65536=a.toNat*16777216+b.toNat*65536:=nat_join 24 _ _ (by omega) (by omega);have j:(a.toNat*16777216+b.toNat*65536) ||| c.toNat*256=a.toNat*16777216+b.toNat*65536+c.toNat*256:=nat_join 16 _ _ (by omega) (by omega);have l:(a.toNat*16777216+b.toNat*65536+c.toNat*256) ||| d.toNat=a.toNat*16777216+b.toNat*65536+c.toNat*256+d.toNat:=nat_join 8 _ _ (by omega) (by omega)
 rw[show((a.toNat:Int)*16777216)=((a.toNat*16777216:Nat):Int) by omega,show((b.toNat:Int)*65536)=((b.toNat*65536:Nat):Int) by omega,show((c.toNat:Int)*256)=((c.toNat*256:Nat):Int) by omega,
  u32_or_nat _ _ (by omega) (by omega),i,u32_or_nat _ _ (by omega) (by omega),j,u32_or_nat _ _ (by omega) (by omega),l]
 rfl
theorem qB(a b c d:UInt8)(r:gw)(w:Q0)(_hr:O r<=9223372036854775000):
  Rg prog 150 #[Q7 ⟨(a::b::c::d::r).toArray⟩] w fun e w'=>e=Ra (I .u32 (j5 a b c d))/\∃n,w'=w.drewN n:=by
 have ha:=a.toNat_lt;have i:=b.toNat_lt;have hc:=c.toNat_lt;have j:=d.toNat_lt;go_enter func150,ntmps150;go_wp2;have i0:∀w,(Instr.index 9 (Q7 ⟨(a::b::c::d::r).toArray⟩) (I Y 0)).run prog w=.ok (I Rf a.toNat) w:=fun w=>gW underlying9 _ _ 0 a (by decide) rfl w;have i1:∀w,(Instr.index 9 (Q7 ⟨(a::b::c::d::r).toArray⟩) (I Y 1)).run prog w=.ok (I Rf b.toNat) w:=fun w=>gW underlying9 _ _ 1 b (by decide) rfl w;have i2:∀w,(Instr.index 9 (Q7 ⟨(a::b::c::d::r).toArray⟩) (I Y 2)).run prog w=.ok (I Rf c.toNat) w:=fun w=>gW underlying9 _ _ 2 c (by decide) rfl w;have i3:∀w,(Instr.index 9 (Q7 ⟨(a::b::c::d::r).toArray⟩) (I Y 3)).run prog w=.ok (I Rf d.toNat) w:=fun w=>gW underlying9 _ _ 3 d (by decide) rfl w;go_quiet (fail);go_wp2;go_ret;exact⟨E5 (Oj a b c d),_,rfl⟩
theorem lj(k n:Int)(w:Q0):
  Rg prog 107 #[I Y k,I Y n] w fun e w'=>e=Ra (Q5 (N ⟨G (Q w),0,J⟩))/\w'=Ro w (Q1 #[I Y k,I Y n,.nilIface] 186):=by
 go_enter func107,ntmps107;go_wp2;go_ret;exact⟨rfl,rfl⟩
def yX(n:Nat):gw:=[UInt8.ofNat (n / 16777216),UInt8.ofNat (n / 65536),UInt8.ofNat (n / 256),UInt8.ofNat n]
def vh(kind:UInt8)(l:gw):gw:=kind::l++yX (Cp (kind::l))
theorem Mz(w:Q0)(c:Nat)(hc:c<4294967296):gI (Ro w (Q1 #[I Rf ((c:Int) / 16777216),I Rf ((c:Int) / 65536%256),I Rf ((c:Int) / 256%256),I Rf ((c:Int)%256)] 5)) (Q6 (N ⟨G (Q w),0,J⟩) 4 4) (yX c):=by
 have h:=gS.new w #[I Rf ((c:Int) / 16777216),I Rf ((c:Int) / 65536%256),I Rf ((c:Int) / 256%256),I Rf ((c:Int)%256)] 5 0 0 0 1 4 4 ux (by omega) (by decide) (by simp) (.inl (by omega));have e:(#[I Rf ((c:Int) / 16777216),I Rf ((c:Int) / 65536%256),I Rf ((c:Int) / 256%256),I Rf ((c:Int)%256)]:Array Q4).toList.take (4*1)=l6 (yX c):=by simp[l6,yX];omega
 rw[e]at h;exact h.bytes
theorem Mt(kind:UInt8)(v:Q4)(l:gw)(w:Q0)(x:gI w v l)(hl:O l<=im):
  Rg prog 121 #[I Rf kind.toNat,v] w fun e w'=>∃v',e=Ra v'/\gS w' (G (Q w)) 1 v' (O l+5) (l6 (vh kind l))/\Q8 (G (Q w)) w w':=by
 have q:gI (Ro w (Q1 #[I Rf kind.toNat] 5)) v l:=x.below ((gJ w).alloc gH _);have j:gS (Ro w (Q1 #[I Rf kind.toNat] 5)) (G (Q w)) 1 (Q6 (N ⟨G (Q w),0,J⟩) 1 1) 1 (l6 [kind]):=gS.new w #[I Rf kind.toNat] 5 0 0 (G (Q w)) 1 1 1 gH (by omega) (by decide) (by simp) (.inl (by omega));unfold im at hl;have m:=gj hl;clear hl;go_enter func121,ntmps121;go_wp2_with (at_builtin;refine qp rfl (.tmp 8) (.tmp 9) rfl (G (Q w)) (Q6 (N ⟨G (Q w),0,J⟩) 1 1) 1 [kind] rfl j l q (by have:=m.o;omega) (by simp) ?_;intro r w1 b _ d);refine(Kw r (kind::l) _ b.bytes (by have:=m.o;simp;omega)).mono ?_;rintro e w2 ⟨rfl,rfl⟩;have s:=Ev (kind::l);have y:=gj (show vh kind l=kind::l++yX (Cp (kind::l))from rfl);generalize Cp (kind::l)=c at *
 go_wp2_with (at_builtin;refine qp rfl (.tmp 13) (.tmp 25) rfl (G (Q w)) r (1+O l) ([kind]++l) rfl (b.below ((gJ w1).alloc gH _)) (yX c) (Mz w1 c s) (by have:=m.o;simp[yX];omega) (by have:=d.size;simp at this⊢;omega) ?_;intro v2 w2 i _ u);go_ret;refine⟨v2,rfl,?_,?_⟩
 .rw[y.o];have B:1+O l+(yX c).length=O l+5:=by simp[yX];omega
  rw[<-B];exact i
 .exact(((gJ w).alloc gH _).trans d).trans (((gJ w1).alloc (by have:=d.size;simp at this;omega) _).trans u)
def mB(w:Q0)(base:Nat)(v:Q4)(k n:Int):Prop:=
 ∃g,v=Rb 171 (Q5 (N ⟨g,0,J⟩))/\base<=g/\w.heap[g]?=N (Q1 #[I Y k,I Y n,.nilIface] 186 (0,0))
theorem mB.new(w:Q0)(base:Nat)(k n:Int)(h:base<=G (Q w)):mB (Ro w (Q1 #[I Y k,I Y n,.nilIface] 186)) base (Rb 171 (Q5 (N ⟨G (Q w),0,J⟩))) k n:=
 ⟨_,rfl,h,gB _ _⟩
theorem Ek(v:Q4)(l:gw)(w:Q0)(b:gI w v l)(hl:O l<5):
  Rg prog 110 #[v] w fun e w'=>∃ev,e=Ra (Rc #[I Rf 0,Q6 J 0 0,ev])/\mB w' (G (Q w)) ev 1 (O l)/\Q8 (G (Q w)) w w':=by
 obtain⟨a,cap,rfl,d,i⟩:=b.gU;clear i b;go_enter func110,ntmps110;go_wp2_with (go_at_call 107;refine(lj _ _ _).mono ?_;rintro e w' ⟨rfl,rfl⟩);go_ret3;exact⟨_,rfl,mB.new w _ _ _ gH,(gJ w).alloc gH _⟩
theorem xG{l:gw}{w:Q0}(d:gI w v l)(hl:O l<=im):
  Rg prog 149 #[v] (w.drewN n) fun e b=>e=Ra (I .u32 (Cp l))/\∃m,b=w.drewN m:=
 (Kw v l (w.drewN n) (d.drewN n) (by unfold im at hl;omega)).mono fun _ _ ⟨h1,i⟩=>⟨h1,n,i.symm⟩
theorem td(a b c d:UInt8)(w:Q0)(n:Nat):
  Rg prog 150 #[Q7 ⟨[a,b,c,d].toArray⟩] (w.drewN n) fun e i=>e=Ra (I .u32 (j5 a b c d))/\∃m,i=w.drewN m:=
 Calls.quiet_of (qB a b c d [] (w.drewN n) (by simp))
theorem FB(v:Q4)(k:UInt8)(p:gw)(a b c d:UInt8)(w:Q0)(r:gI w v (k::p++[a,b,c,d]))(hl:O p+1<=im)(U:Cp (k::p)=j5 a b c d):
  Rg prog 110 #[v] w fun e w'=>∃v',e=Ra (Rc #[I Rf k.toNat,v',.nilIface])/\gS w' (G (Q w)) 1 v' (O p) (l6 p)/\Q8 (G (Q w)) w w':=by
 obtain⟨W,cap,rfl,s,C⟩:=r.gU;obtain⟨i,off,rfl,u⟩:=C 0 (by simp);have l:(k::p++[a,b,c,d]).length=O p+5:=by simp
 have V:O p<=9223372036854775000:=by unfold im at hl;omega
 have F:O p+5<=cap:=by rw[<-l];exact s
 obtain⟨n,B⟩:∃n,n=O p+1:=⟨_,rfl⟩;have s1:gI w (Q6 (N ⟨i,off,J⟩) n cap) (k::p):=by rw[B];exact r.left
 have s2:gI w (Q6 (N ⟨i,off+n,J⟩) 4 (cap-n)) [a,b,c,d]:=by rw[B];exact r.right
 have R:gI w (Q6 (N ⟨i,off+1,J⟩) (n-1) (cap-1)) p:=by rw[B];exact gI.right (x:=[k]) (y:=p) r.left
 have M:∀m,(convert 112 9 (Q6 (N ⟨i,off+n,J⟩) 4 (cap-n))).run prog (w.drewN m)=.ok (Q7 ⟨[a,b,c,d].toArray⟩) (w.drewN m):=fun m=>(s2.drewN m).convert;have D:=gK u;have n1:n<=cap:=by omega
 have n2:1<=n:=by omega
 have X:n+4<=cap:=by omega
 have Z:(0:Int)<(n:Int)+4:=by omega
 have n5:(1:Int)<=(n:Int):=by omega
 have n6:¬cap=1:=by omega
 rw[l];clear C s l r;simp only[aV,cG,cL]at u;have E:=gj B;clear B;go_enter func110,ntmps110;go_wp2;rw[show(O p:Int)+5-4=(n:Int) by rw[E.o];omega];rw[show(O p)+5=n+4 by rw[E.o]];go_quiet ((first|(go_at_call 149;exact xG s1 (by simp;omega))|(go_at_call 150;exact td a b c d w _)));go_wp2
 go_region_held3 (fun w'=>Rn w' ⟨i,off,J⟩=N (I Rf k.toNat)) (first|go_keep|exact(j.cell (p:=⟨i,off,J⟩) D).trans u)
  ((refine Cf rfl _ (.tmp 33) rfl (G (Q w)) (Q6 J 0 0) 0 [] rfl (gS.nil _ _ _) p (by exact R) (by unfold im at hl;omega) (by simp) ?_;intro S w1 q _ j))
 go_wp2;go_ret3;rw[bY,aQ]at q;exact⟨S,rfl,q,⟨j.os,j.tape,j.output,j.size,j.block⟩⟩
theorem Hy(v:Q4)(k:UInt8)(p:gw)(a b c d:UInt8)(w:Q0)(l:gI w v (k::p++[a,b,c,d]))(hl:O p+1<=im)(M:¬Cp (k::p)=j5 a b c d):
  Rg prog 110 #[v] w fun e w'=>∃ev,e=Ra (Rc #[I Rf 0,Q6 J 0 0,ev])/\mB w' (G (Q w)) ev 3 (O p+1)/\Q8 (G (Q w)) w w':=by
 obtain⟨U,cap,rfl,q,B⟩:=l.gU;obtain⟨j,off,rfl,s⟩:=B 0 (by simp);have i:(k::p++[a,b,c,d]).length=O p+5:=by simp
 have R:O p<=9223372036854775000:=by unfold im at hl;omega
 have C:O p+5<=cap:=by rw[<-i];exact q
 obtain⟨n,r⟩:∃n,n=O p+1:=⟨_,rfl⟩;have s1:gI w (Q6 (N ⟨j,off,J⟩) n cap) (k::p):=by rw[r];exact l.left
 have s2:gI w (Q6 (N ⟨j,off+n,J⟩) 4 (cap-n)) [a,b,c,d]:=by rw[r];exact l.right
 have V:gI w (Q6 (N ⟨j,off+1,J⟩) (n-1) (cap-1)) p:=by rw[r];exact gI.right (x:=[k]) (y:=p) l.left
 have D:∀m,(convert 112 9 (Q6 (N ⟨j,off+n,J⟩) 4 (cap-n))).run prog (w.drewN m)=.ok (Q7 ⟨[a,b,c,d].toArray⟩) (w.drewN m):=fun m=>(s2.drewN m).convert;have S:=gK s;have E:((Cp (k::p):Int)==(j5 a b c d:Int))=false:=by rw[ar];omega
 have F:((Cp (k::p):Int) != (j5 a b c d:Int))=true:=by rw[eB];omega
 have n1:n<=cap:=by omega
 have n2:1<=n:=by omega
 have W:n+4<=cap:=by omega
 have X:(0:Int)<(n:Int)+4:=by omega
 have Z:(1:Int)<=(n:Int):=by omega
 have n6:¬cap=1:=by omega
 rw[i];clear B q i l;simp only[aV,cG,cL]at s;have u:=gj r;clear r;go_enter func110,ntmps110;go_wp2;rw[show(O p:Int)+5-4=(n:Int) by rw[u.o];omega];rw[show(O p)+5=n+4 by rw[u.o]];go_quiet ((first|(go_at_call 149;exact xG s1 (by simp;omega))|(go_at_call 150;exact td a b c d w _)));go_wp2_with (go_at_call 107;refine(lj _ _ _).mono ?_;rintro e w' ⟨rfl,rfl⟩);go_ret3;refine⟨_,rfl,?_,(((gJ w).drewN nq).alloc gH _)⟩;rw[show(O p:Int)+1=(n:Int) by rw[u.o];omega];exact mB.new (w.drewN nq) (G (Q w)) 3 n gH
def lQ(l:gw):(UInt8×gw)⊕(Nat×Nat):=
 if(O l)<5 then .inr (1,O l)
 else match l.drop (O l-4) with
  | [a,b,c,d]=>if Cp (l.take (O l-4))=j5 a b c d then .inl (l.headD 0,(l.take (O l-4)).drop 1)else .inr (3,O l-4)
  | _=>.inr (0,0)
theorem pU(k:UInt8)(p:gw)(a b c d:UInt8):lQ (k::p++[a,b,c,d])=if Cp (k::p)=j5 a b c d then .inl (k,p)else .inr (3,O p+1):=by
 have h1:(k::p++[a,b,c,d]).length-4=(k::p).length:=by simp
 unfold lQ;rw[af (by simp),h1,fw,eE];simp
theorem vp(l:gw)(h:¬(O l)<5):∃k p a b c d,l=k::p++[a,b,c,d]:=by
 cases l with
 | nil=>simp at h
 | cons k r=>
  have i:r=r.take (O r-4)++r.drop (O r-4):=(cw _ _).symm;have j:(r.drop (O r-4)).length=4:=by simp at h⊢;omega
  match hq:r.drop (O r-4),j with
  | [a,b,c,d],_=>exact⟨k,r.take (O r-4),a,b,c,d,by rw[hq]at i;rw[aV,<-i]⟩
def Hv(l:gw)(w:Q0)(e:Ending)(w':Q0):Prop:=
 Q8 (G (Q w)) w w'/\match lQ l with
  | .inl (k,p)=>∃v',e=Ra (Rc #[I Rf k.toNat,v',.nilIface])/\gS w' (G (Q w)) 1 v' (O p) (l6 p)
  | .inr (k,n)=>∃ev,e=Ra (Rc #[I Rf 0,Q6 J 0 0,ev])/\mB w' (G (Q w)) ev k n
theorem Hw(v:Q4)(l:gw)(w:Q0)(q:gI w v l)(hl:O l<=im):
  Rg prog 110 #[v] w (Hv l w):=by
 by_cases h:O l<5
 .refine(Ek v l w q h).mono fun e w' ⟨ev,h1,j,m⟩=>⟨m,?_⟩;unfold lQ;rw[aw h];exact⟨ev,h1,j⟩
 .obtain⟨k,p,a,b,c,d,rfl⟩:=vp l h;have o:O p+1<=im:=by simp at hl;omega
  by_cases i:Cp (k::p)=j5 a b c d
  .refine(FB v k p a b c d w q o i).mono fun e w' ⟨v',h1,j,m⟩=>⟨m,?_⟩;rw[pU,aw i];exact⟨v',h1,j⟩
  .refine(Hy v k p a b c d w q o i).mono fun e w' ⟨ev,h1,j,m⟩=>⟨m,?_⟩;rw[pU,af i];exact⟨ev,h1,j⟩
theorem Er(n:Nat)(s:n<4294967296)(a b c d:UInt8):yX n=[a,b,c,d]↔n=j5 a b c d:=by
 have ha:=a.toNat_lt;have u:=b.toNat_lt;have hc:=c.toNat_lt;have x:=d.toNat_lt;unfold yX j5;constructor
 .intro h;simp only[ep,and_true]at h;obtain⟨h1,i,j,l⟩:=h;have m:=bm UInt8.toNat h1;have o:=bm UInt8.toNat i;have q:=bm UInt8.toNat j;have r:=bm UInt8.toNat l;simp at m o q r;omega
 .intro h;simp only[ep,and_true,<-dO];simp;omega
structure gZ(w:Q0):Prop where
 two:2<=G (Q w)
 c0:Rn w ⟨1,0,J⟩=N (I Y 6)
 c1:Rn w ⟨1,1,J⟩=N (I Y 4)
 c2:Rn w ⟨1,2,J⟩=N (I Y 5)
 c3:Rn w ⟨1,3,J⟩=N (I Y 4)
 c4:Rn w ⟨1,4,J⟩=N (I Y 2)
 c5:Rn w ⟨1,5,J⟩=N (I Y 2)
theorem gZ.iI{w:Q0}(h:gZ w)(b:G (Q w)<=G (Q w'))(d:w'.heap[1]?=w.heap[1]?):gZ w':=by have e:∀i,Rn w' ⟨1,i,J⟩=Rn w ⟨1,i,J⟩:=fun i=>aS (a:=⟨1,i,J⟩) d;exact⟨au h.two b,by rw[e,h.c0],by rw[e,h.c1],by rw[e,h.c2],by rw[e,h.c3],by rw[e,h.c4],by rw[e,h.c5]⟩
theorem gZ.new{w:Q0}(h:gZ w)(b:Q8 (G (Q w)) w w'):gZ w':=
 h.iI b.size (b.block _ (gK h.c0))
theorem gZ.alloc{w:Q0}(h:gZ w)(o:Obj):gZ (Ro w o):=h.new ((gJ w).alloc gH o)
def nd(t:Int)(k:gw):Q4:=.agg #[I Y t,Q7 ⟨Rm k⟩]
def gL(t:Int):Nat:=if t=0 then 6 else if t=1 then 5 else 2
def iu(t:Int):Nat:=if t=0 then 4 else if t=1 then 4 else 2
def ij(v:Nat):Bool:=decide (0<v)&&decide (v<18446744073709551615)
def js(t:Int)(k:gw):Bool:=
 if t=0 then match k with | [a,_,_,_,_,_]=>a.toNat%2==0|_=>false
 else if t=1 then match k with | [a,b,c,d,e]=>decide (e.toNat<=32)&&(j5 a b c d*2^e.toNat%4294967296==0)|_=>false
 else match k with | [_,_]=>true|_=>false
def jb(t:Int)(k:gw):Bool:=
 if t=2 then match k with | [a,b]=>(a.toNat==0 || a.toNat==6 || a.toNat==17)&&decide (b.toNat<=1)|_=>false
 else match k with | [a,b,c,d]=>j5 a b c d != 0|_=>false
theorem wO{t:Int}{k:gw}(h:O k≠gL t):js t k=false:=by
 unfold js;unfold gL at h;split
 .split
  .simp_all
  .rfl
 .split
  .split
   .simp_all
   .rfl
  .split
   .simp_all
   .rfl
theorem tW{t:Int}{k:gw}(b:0<=t)(d:t<3)(h:O k≠iu t):jb t k=false:=by
 unfold jb;unfold iu at h;split
 .split
  .simp_all
  .rfl
 .split
  .exfalso;have:t=0\/t=1:=by omega
   rcases this with rfl|rfl<;>simp_all
  .rfl
theorem sJ(v:Nat)(w:Q0):Rg prog 158 #[I .u64 v] w fun e w'=>e=Ra (Rh (ij v))/\w=w':=by
 unfold ij;by_cases i:0<v
 .by_cases h1:v<18446744073709551615
  .have b:(0:Int)<v:=by omega
   have d:(v:Int)<18446744073709551615:=by omega
   go_enter func158,ntmps158;go_wp2;go_ret;exact⟨by simp[i,h1],rfl⟩
  .have b:(0:Int)<v:=by omega
   have d:¬(v:Int)<18446744073709551615:=by omega
   go_enter func158,ntmps158;go_wp2;go_ret;exact⟨by simp,rfl⟩
 .obtain rfl:v=0:=by omega
  go_enter func158,ntmps158;go_wp2;go_ret;exact⟨rfl,rfl⟩
theorem Ll(t:Int)(k:gw)(w:Q0)(b:gZ w)(i:0<=t)(j:t<3)(hk:O k≠gL t)(_hl:O k<=im):
  Rg prog 171 #[nd t k] w fun e w'=>e=Ra (Rh false)/\Q8 (G (Q w)) w w':=by
 unfold nd;have l:=b.two;have c0:=fun o=>(b.alloc o).c0;have c2:=fun o=>(b.alloc o).c2;have c4:=fun o=>(b.alloc o).c4;unfold gL at hk;unfold im at _hl;have:t=0\/t=1\/t=2:=by omega
 rcases this with rfl|rfl|rfl
 .have d:¬(O k:Int)=6:=by simp at hk;omega
  go_enter func171,ntmps171;go_wp2;go_ret;exact⟨rfl,(gJ w).alloc gH _⟩
 .have d:¬(O k:Int)=5:=by simp at hk;omega
  go_enter func171,ntmps171;go_wp2;go_ret;exact⟨rfl,(gJ w).alloc gH _⟩
 .have d:¬(O k:Int)=2:=by simp at hk;omega
  go_enter func171,ntmps171;go_wp2;go_ret;exact⟨rfl,(gJ w).alloc gH _⟩
theorem Kl{k:gw}(h:O k=6):∃a b c d e f,k=[a,b,c,d,e,f]:=by
 match k,h with
 | [a,b,c,d,e,f],_=>exact⟨a,b,c,d,e,f,rfl⟩
theorem EN{k:gw}(h:O k=5):∃a b c d e,k=[a,b,c,d,e]:=by
 match k,h with
 | [a,b,c,d,e],_=>exact⟨a,b,c,d,e,rfl⟩
theorem Ak{k:gw}(h:O k=4):∃a b c d,k=[a,b,c,d]:=by
 match k,h with
 | [a,b,c,d],_=>exact⟨a,b,c,d,rfl⟩
theorem tY{k:gw}(h:O k=2):∃a b,k=[a,b]:=by
 match k,h with
 | [a,b],_=>exact⟨a,b,rfl⟩
theorem IP(t:Int)(k:gw)(w:Q0)(i:gZ w)(q:0<=t)(r:t<3)(hk:O k=gL t):
  Rg prog 171 #[nd t k] w fun e w'=>e=Ra (Rh (js t k))/\Q8 (G (Q w)) w w':=by
 unfold nd js;have s:=i.two;have c0:=fun o=>(i.alloc o).c0;have c2:=fun o=>(i.alloc o).c2;have c4:=fun o=>(i.alloc o).c4;unfold gL at hk;have:t=0\/t=1\/t=2:=by omega
 rcases this with rfl|rfl|rfl
 .obtain⟨a,b,c,d,e,f,rfl⟩:=Kl hk;have ha:=a.toNat_lt;have i0:∀w,(Instr.index 9 (Q7 ⟨[a,b,c,d,e,f].toArray⟩) (I Y 0)).run prog w=.ok (I Rf a.toNat) w:=fun w=>gW underlying9 _ _ 0 a (by decide) rfl w;have u:bits BinOp.and Rf (a.toNat:Int) 1=((a.toNat%2:Nat):Int):=by rw[show(1:Int)=((1:Nat):Int)from rfl,u8_and_nat _ _ ha (by omega),Nat.and_one_is_mod]
  go_enter func171,ntmps171;go_wp2;go_ret;have he:((a.toNat:Int)%2==0)=(a.toNat%2==0):=by
   rcases de a.toNat with h|h
   .rw[h,show((a.toNat:Int)%2)=0 by omega];rfl
   .rw[h,show((a.toNat:Int)%2)=1 by omega];rfl
  exact⟨by simp[he],(gJ w).alloc gH _⟩
 .obtain⟨a,b,c,d,e,rfl⟩:=EN hk;have he:=e.toNat_lt;have i4:∀w,(Instr.index 9 (Q7 ⟨[a,b,c,d,e].toArray⟩) (I Y 4)).run prog w=.ok (I Rf e.toNat) w:=fun w=>gW underlying9 _ _ 4 e (by decide) rfl w;by_cases m:e.toNat<=32
  .have j:(e.toNat:Int)<=32:=by omega
   have hq:((j5 a b c d:Int)*2^e.toNat%4294967296==0)=(j5 a b c d*2^e.toNat%4294967296==0):=by
    have l:((j5 a b c d:Int)*2^e.toNat%4294967296)=((j5 a b c d*2^e.toNat%4294967296:Nat):Int):=by rw[Int.natCast_emod,Int.natCast_mul,Int.natCast_pow];rfl
    rw[l];cases j5 a b c d*2^e.toNat%4294967296
    .rfl
    .simp;omega
   go_enter func171,ntmps171;go_wp2;go_quiet ((first|(go_at_call 150;exact Calls.quiet_of (qB a b c d [e] _ (by simp)))));go_wp2;go_ret;exact⟨by simp,((gJ w).alloc gH _).drewN _⟩
  .have j:¬(e.toNat:Int)<=32:=by omega
   have x:decide ((e.toNat:Int)<=32)=false:=aF j;go_enter func171,ntmps171;go_wp2;go_quiet ((first|(go_at_call 150;exact Calls.quiet_of (qB a b c d [e] _ (by simp)))));go_wp2;go_ret;exact⟨by simp,((gJ w).alloc gH _).drewN _⟩
 .obtain⟨a,b,rfl⟩:=tY hk;go_enter func171,ntmps171;go_wp2;go_ret;exact⟨rfl,(gJ w).alloc gH _⟩
theorem yG(t:Int)(k:gw)(w:Q0)(b:gZ w)(d:0<=t)(i:t<3)(hl:O k<=im):
  Rg prog 171 #[nd t k] w fun e w'=>e=Ra (Rh (js t k))/\Q8 (G (Q w)) w w':=by
 by_cases hk:O k=gL t
 .exact IP t k w b d i hk
 .rw[wO hk];exact Ll t k w b d i hk hl
theorem Gn(t:Int)(k:gw)(w:Q0)(b:gZ w)(i:0<=t)(j:t<3)(hk:O k≠iu t)(_hl:O k<=im):
  Rg prog 172 #[I Y t,Q7 ⟨Rm k⟩] w fun e w'=>e=Ra (Rh false)/\Q8 (G (Q w)) w w':=by
 have l:=b.two;have c1:=b.c1;have c3:=b.c3;have c5:=b.c5;unfold iu at hk;unfold im at _hl;have:t=0\/t=1\/t=2:=by omega
 rcases this with rfl|rfl|rfl
 .have d:¬(O k:Int)=4:=by simp at hk;omega
  go_enter func172,ntmps172;go_wp2;go_ret;exact⟨rfl,gJ w⟩
 .have d:¬(O k:Int)=4:=by simp at hk;omega
  go_enter func172,ntmps172;go_wp2;go_ret;exact⟨rfl,gJ w⟩
 .have d:¬(O k:Int)=2:=by simp at hk;omega
  go_enter func172,ntmps172;go_wp2;go_ret;exact⟨rfl,gJ w⟩
theorem EJ(t:Int)(a b c d:UInt8)(w:Q0)(i:gZ w)(j:0<=t)(l:t<2):
  Rg prog 172 #[I Y t,Q7 ⟨[a,b,c,d].toArray⟩] w fun e w'=>e=Ra (Rh (j5 a b c d != 0))/\Q8 (G (Q w)) w w':=by
 have m:=i.two;have c1:=i.c1;have c3:=i.c3;have hq:((j5 a b c d:Int) != 0)=(j5 a b c d != 0):=by
  cases j5 a b c d
  .rfl
  .rw[cS];simp;omega
 have:t=0\/t=1:=by omega
 rcases this with rfl|rfl
 all_goals
  go_enter func172,ntmps172;go_wp2_with fail;refine(qB a b c d [] _ (by simp)).mono ?_;rintro e w1 ⟨rfl,n,rfl⟩;go_wp2;go_ret;exact⟨by simp,(gJ w).drewN _⟩
theorem Gm(a b:UInt8)(w:Q0)(m:gZ w):
  Rg prog 172 #[I Y 2,Q7 ⟨[a,b].toArray⟩] w fun e w'=>e=Ra (Rh ((a.toNat==0 || a.toNat==6 || a.toNat==17)&&decide (b.toNat<=1)))/\Q8 (G (Q w)) w w':=by
 have s:=m.two;have c5:=m.c5;have i0:∀w,(Instr.index 9 (Q7 ⟨[a,b].toArray⟩) (I Y 0)).run prog w=.ok (I Rf a.toNat) w:=fun w=>gW underlying9 _ _ 0 a (by decide) rfl w;have i1:∀w,(Instr.index 9 (Q7 ⟨[a,b].toArray⟩) (I Y 1)).run prog w=.ok (I Rf b.toNat) w:=fun w=>gW underlying9 _ _ 1 b (by decide) rfl w;have u:decide ((b.toNat:Int)<=1)=decide (b.toNat<=1):=by rw[cS];simp;omega
 have hc:∀n:Nat,((a.toNat:Int)==n)=(a.toNat==n):=fun n=>by rw[cS,aT,aT];omega
 have j:=hc 0;have l:=hc 6;have d:=hc 17;have ha:=a.toNat_lt;have x:=b.toNat_lt;clear hc;cases o:(a.toNat==0)<;>cases q:(a.toNat==6)<;>cases i:(a.toNat==17)
 all_goals
  rw[o]at j;rw[q]at l;rw[i]at d;have e0:((a.toNat:Int)==0)=_:=j;have y:((a.toNat:Int)==6)=_:=l;have r:((a.toNat:Int)==17)=_:=d;clear j l d o q i;go_enter func172,ntmps172;go_wp2;go_ret;exact⟨by simp,gJ w⟩
theorem zo(t:Int)(k:gw)(w:Q0)(i:gZ w)(j:0<=t)(l:t<3)(hl:O k<=im):
  Rg prog 172 #[I Y t,Q7 ⟨Rm k⟩] w fun e w'=>e=Ra (Rh (jb t k))/\Q8 (G (Q w)) w w':=by
 by_cases hk:O k=iu t
 .by_cases m:t=2
  .subst m;obtain⟨a,b,rfl⟩:=tY hk;exact Gm a b w i
  .have o:O k=4:=by unfold iu at hk;split at hk<;>simp_all;omega
   obtain⟨a,b,c,d,rfl⟩:=Ak o;have e:jb t [a,b,c,d]=(j5 a b c d != 0):=by unfold jb;rw[af m]
   rw[e];exact EJ t a b c d w i j (by omega)
 .rw[tW j l hk];exact Gn t k w i j l hk hl
def nC(v:Nat):gw:=(List.range 8).map fun i=>UInt8.ofNat (v / 2^(56-8*i))
theorem iB(v:Nat):(nC v).length=8:=by simp[nC]
theorem FL(v k:Nat)(h:k<8):(nC v).take (k+1)=(nC v).take k++[UInt8.ofNat (v / 2^(56-8*k))]:=by rw[aC (by rw[iB];exact h)];simp[nC]
theorem ow(w:Q0)(k:UInt8):gI (Ro w (Q1 #[I Rf (k.toNat:Int)] 5)) (Q6 (N ⟨G (Q w),0,J⟩) 1 1) [k]:=
 (gS.new w #[I Rf (k.toNat:Int)] 5 0 0 0 1 1 1 ux (by omega) (by decide) (by simp) (.inl (by omega))).bytes (l:=[k])
theorem By(base:Nat)(bv:Q4)(l:gw)(v:Nat)(w:Q0)(r:gS w base 1 bv (O l) (l6 l))(x:base<=G (Q w))(hl:O l<=im)(_hv:v<18446744073709551616):
  Rg prog 160 #[bv,I .u64 v] w fun e w'=>∃q,e=Ra q/\gS w' base 1 q (O l+8) (l6 (l++nC v))/\Q8 base w w':=by
 unfold im at hl;go_enter func160,ntmps160;go_wp2;go_loopw [0,6] (fun y i wr=>∃k:Nat,k<=8/\i=I Y k/\gS wr base 1 y (l++(nC v).take k).length (l6 (l++(nC v).take k))/\Q8 base w wr) (fun _ i _=>8-(intOf i).toNat)
 case atStart=>exact⟨0,by omega,rfl,by simpa using r,kz⟩
 case round=>
  obtain⟨k,hk,rfl,b,d⟩:=hrel;by_cases B:k<8
  .have s:((UInt8.ofNat (v / 2^(56-8*k))).toNat:Int)=(v:Int) / 2^(56-8*k)%256:=by simp
   have j:=ow wr (UInt8.ofNat (v / 2^(56-8*k)));rw[s]at j;have C:=d.size;have H:=gj (FL v k B);have F:=gj s;clear s;have D:(k:Int)<8:=by omega
   have E:(l++(nC v).take k).length<=140737488355100:=by rw[ab,ax,iB];omega
   go_wp2_with (at_builtin;refine qp rfl (.tmp 9) (.tmp 16) rfl base _ _ (l++(nC v).take k) rfl (b.below ((gJ wr).alloc gH _)) [UInt8.ofNat (v / 2^(56-8*k))] j (by simp only[ao,aI];omega) (by simp;omega) ?_;intro M w1 m _ u);go_roundw
   case rel=>refine⟨k+1,by omega,by go_num,?_,(d.alloc (by omega) _).trans u⟩;rw[H.o,<-bJ];rw[ab];exact m
   case measure=>simp[intOf];omega
  .obtain rfl:k=8:=by omega
   rw[aW (by rw[iB];omega)]at b;go_wp2;go_ret;refine⟨_,rfl,?_,d⟩;rw[ab,iB]at b;exact b
structure Cu where
 l:gw
 at':Nat
 to:Nat
 f:Option (Nat×Nat)
variable{cu:Cu}
def Cu.take(c:Cu)(n:Nat):Cu×gw:=
 match c.f with
 | some _=>(c,List.replicate n 0)
 | none=>if(O c.l)<c.to+n then({c with f:=N (1,c.to)},List.replicate n 0)else({c with at':=c.to,to:=c.to+n},(c.l.drop c.to).take n)
def Cu.mG(c:Cu)(ok:Bool)(k:Nat):Cu:=
 match c.f with
 | some _=>c
 | none=>if ok then c else {c with f:=N (k,c.at')}
def Cu.mT(c:Cu):Cu:=
 match c.f with
 | some _=>c
 | none=>if c.to<O c.l then {c with f:=N (2,c.to)}else c
def Ar(w:Q0)(base:Nat)(fp:Option Addr)(f:Option (Nat×Nat)):Prop:=
 match f with
 | none=>fp=J
 | some (k,n)=>∃g,fp=N ⟨g,0,none⟩/\base<=g/\w.heap[g]?=N (Q1 #[I Y k,I Y n,.nilIface] 186 (0,0))
def jd(w:Q0)(base c:Nat)(cu:Cu):Prop:=
 cu.to<=O cu.l/\cu.at'<=cu.to/\O cu.l<=im/\base<=c/\
 ∃v fp,w.heap[c]?=N (Q1 #[v,I Y cu.at',I Y cu.to,Q5 fp] 254 (0,0))/\gI w v cu.l/\(∀b,Rl v=N b->b<c)/\Ar w base fp cu.f
theorem Ar.iI{w:Q0}{fp:Option Addr}{f:Option (Nat×Nat)}(h:Ar w base fp f)(i:∀g,base<=g->(∃k n,w.heap[g]?=N (Q1 #[I Y k,I Y n,.nilIface] 186 (0,0)))->w'.heap[g]?=w.heap[g]?):Ar w' base fp f:=by
 cases f with
 | none=>exact h
 | some x=>obtain⟨g,h1,b,d⟩:=h;exact⟨g,h1,b,by rw[i g b ⟨_,_,d⟩];exact d⟩
theorem jd.lt{w:Q0}(h:jd w base c cu):c<G (Q w):=by obtain⟨h1,d,i,j,v,fp,b,l⟩:=h;exact gm b
theorem jd.iI{w:Q0}(h:jd w base c cu)(b:Q8 (G (Q w)) w w'):jd w' base c cu:=by obtain⟨h1,i,j,l,v,fp,d,m,o,q⟩:=h;refine⟨h1,i,j,l,v,fp,gC b (gm d) d,m.below b,o,q.iI fun g _ ⟨k,n,r⟩=>b.block g (gm r)⟩
theorem jd.grown{w:Q0}{r:Nat}(h:jd w base c cu)(d:w.grownBy w' (N r))(B:c<r)(m:∀k n,w.heap[r]?≠N (Q1 #[I Y k,I Y n,.nilIface] 186 (0,0))):jd w' base c cu:=by
 obtain⟨h1,o,q,s,v,fp,i,u,j,x⟩:=h;refine⟨h1,o,q,s,v,fp,?_,gE.grown u d ?_,j,x.iI fun g _ ⟨k,n,l⟩=>?_⟩
 .rw[d.block c (gm i) (fun e=>by cases e;omega)];exact i
 .intro b y e;cases e;exact absurd (j _ y) (by omega)
 .exact d.block g (gm l) (fun e=>by cases e;exact m k n l)
theorem jg{w:Q0}(b:Q8 (G (Q w)) w w1)(i:Nat)(v:Q4):w.grownBy (Rp w1 ⟨c,i,J⟩ v) (N c):=
 ⟨b.os,b.tape,b.output,by rw[QO];exact b.size,fun k hk d=>(Below.heap_setCell w1 ⟨c,i,J⟩ v k (fun e=>d (by rw[e]))).trans (b.block k hk)⟩
theorem QP{w:Q0}{r:Option Nat}(b:w.grownBy w1 r)(o:Obj):w.grownBy (Ro w1 o) r:=
 ⟨b.os,b.tape,b.output,au b.size (by simp),fun k hk d=>(heap_alloc_old _ _ (ae hk b.size)).trans (b.block k hk d)⟩
theorem jf{w:Q0}(b:w.grownBy w1 (N c))(i:Nat)(v:Q4):w.grownBy (Rp w1 ⟨c,i,J⟩ v) (N c):=
 ⟨b.os,b.tape,b.output,by rw[QO];exact b.size,fun k hk d=>(Below.heap_setCell w1 ⟨c,i,J⟩ v k (fun e=>d (by rw[e]))).trans (b.block k hk d)⟩
theorem sI{w:Q0}{r:Option Nat}(b:w.grownBy w1 r)(m:Nat):w.grownBy (w1.drewN m) r:=⟨b.os,b.tape,b.output,b.size,b.block⟩
theorem gI.cap'{w:Q0}{a:Option Addr}{cap':Nat}{l:gw}(h:gI w (Q6 a n cap) l)(hc:n<=cap'):gI w (Q6 a n cap') l:=by obtain⟨hl,a',b,he,i,d⟩:=h;cases he;exact⟨hl,a,cap',rfl,hc,d⟩
theorem Hr(w:Q0)(n:Nat)(b:n<=100):gI (Ro w (Q1 (madeCells #[I Rf 0] n) 5)) (Q6 (N ⟨G (Q w),0,J⟩) n n) (List.replicate n 0):=by
 have hm:maxLen=9223372036854775807:=rfl;have d:(madeCells #[I Rf 0] n).size=n:=by simp[madeCells]
 have h:=gS.new w (madeCells #[I Rf 0] n) 5 0 0 0 1 n n ux gH (by omega) (by omega) (.inl (by omega));have e:(madeCells #[I Rf 0] n).toList.take (n*1)=l6 (List.replicate n 0):=by rw[eM,Nat.mul_one,aW (by simp)];simp[l6]
 rw[e]at h;exact h.bytes
theorem JH(base c:Nat)(l:gw)(at' to k p n:Nat)(w:Q0)(h:jd w base c ⟨l,at',to,N (k,p)⟩)(j:n<=100):
  Rg prog 157 #[Q5 (N ⟨c,0,J⟩),I Y n] w fun e w'=>∃v,e=Ra v/\gI w' v (List.replicate n 0)/\Rl v≠N c/\Q8 (G (Q w)) w w':=by
 obtain⟨h1,m,o,q,v,fp,b,r,s,g,rfl,u⟩:=h;have c0:Rn w ⟨c,0,J⟩=N (v):=aP w c 0 _ _ _ b;have c1:Rn w ⟨c,1,J⟩=N (I Y at'):=aP w c 1 _ _ _ b;have c2:Rn w ⟨c,2,J⟩=N (I Y to):=aP w c 2 _ _ _ b;have c3:Rn w ⟨c,3,J⟩=N (Q5 (N ⟨g,0,J⟩)):=aP w c 3 _ _ _ b;have d:=gm b;clear b
 have i:∀w,(Instr.makeSlice 112 (I Y n) (I Y n)).run prog w=.ok (Q6 (N ⟨G (Q w),0,J⟩) n n) (Ro w (Q1 (madeCells #[I Rf 0] n) 5)):=fun w=>
  run_make_row' 112 5 (I Rf 0) 1 underlying112 (by kernel_rfl) rfl Y Y n (by omega) (by omega) w
 go_enter func157,ntmps157;go_wp2;go_quiet (fail);go_wp2;go_ret;exact⟨_,rfl,Hr _ n (by omega),by simp[Value.ownBlock];omega,((gJ w).drewN _).alloc gH _⟩
theorem JI(base c:Nat)(l:gw)(at' to n:Nat)(w:Q0)(h:jd w base c ⟨l,at',to,J⟩)(E:base<=G (Q w))(F:n<=100)(hs:O l<to+n):
  Rg prog 157 #[Q5 (N ⟨c,0,J⟩),I Y n] w fun e w'=>∃v,e=Ra v/\gI w' v (List.replicate n 0)/\Rl v≠N c/\jd w' base c ⟨l,at',to,N (1,to)⟩/\w.grownBy w' (N c):=by
 obtain⟨h1,x,y,M,v,fp,d,B,m,R⟩:=h;have S:Rl v≠N c:=fun e=>dt _ (m c e);obtain⟨a,cap,rfl,U,-⟩:=B.gU;obtain rfl:fp=J:=R;have c0:Rn w ⟨c,0,J⟩=N (Q6 a (O l) cap):=aP w c 0 _ _ _ d;have c1:Rn w ⟨c,1,J⟩=N (I Y at'):=aP w c 1 _ _ _ d;have c2:Rn w ⟨c,2,J⟩=N (I Y to):=aP w c 2 _ _ _ d;have c3:Rn w ⟨c,3,J⟩=N (Q5 J):=aP w c 3 _ _ _ d;have f3:=dg w c 3 _ _ d;have q:=gm d;have V:=gj d;simp only[]at h1 x y;unfold im at y;clear d;have Z:(O l:Int)-to<n:=by omega
 have aa:∀w,(Instr.makeSlice 112 (I Y n) (I Y n)).run prog w=.ok (Q6 (N ⟨G (Q w),0,J⟩) n n) (Ro w (Q1 (madeCells #[I Rf 0] n) 5)):=fun w=>
  run_make_row' 112 5 (I Rf 0) 1 underlying112 (by kernel_rfl) rfl Y Y n (by omega) (by omega) w
 go_enter func157,ntmps157;go_wp2;go_quiet (fail);go_wp2_with (go_at_call 107;refine(lj _ _ _).mono ?_;rintro e w1 ⟨rfl,i⟩;have r:Q8 (G (Q w)) w w1:=(by rw[i];exact((gJ w).drewN _).alloc gH _);have j:=gj (gC r q V.o);have g1:w1.heap[G (Q w)]?=N (Q1 #[I Y 1,I Y to,.nilIface] 186 (0,0)):=(by rw[i];exact gB (w.drewN _) _);have C:=gj g1;clear g1;have d3:Rn w1 ⟨c,3,J⟩=N (Q5 J):=aP _ c 3 _ _ _ j.o;have e3:w1.frozen? ⟨c,3,J⟩=false:=dg _ c 3 _ _ j.o;have u:c<G (Q w1):=gm j.o;clear i);go_ret;have D:=gm C.o;have W:=QN w1 c 3 (Q5 (N ⟨G (Q w),0,J⟩)) j.o;have s:w.grownBy (Rp w1 ⟨c,3,J⟩ (Q5 (N ⟨G (Q w),0,J⟩))) (N c):=jg r _ _;refine⟨_,rfl,by have z:=Hr (Rp w1 ⟨c,3,J⟩ (Q5 (N ⟨G (Q w),0,J⟩))) n F;rw[QO]at z;exact z,by simp[Value.ownBlock];omega,⟨h1,x,by simp only[];unfold im;omega,M,Q6 a (O l) cap,N ⟨G (Q w),0,J⟩,?_,?_,m,G (Q w),rfl,E,?_⟩,QP s _⟩
 .rw[heap_alloc_old _ _ (by rw[QO];exact u),W];rfl
 .exact gE.grown (B) (QP s _) (fun b X e=>S (by rw[X,e]))
 .rw[heap_alloc_old _ _ (by rw[QO];exact D)];exact(Below.heap_setCell w1 ⟨c,3,J⟩ _ (G (Q w)) (Nat.ne_of_gt q)).trans C.o
theorem L7(base c:Nat)(l:gw)(at' to n:Nat)(w:Q0)(h:jd w base c ⟨l,at',to,J⟩)(hn:n<=100)(W:1<=n)(r:to+n<=O l):
  Rg prog 157 #[Q5 (N ⟨c,0,J⟩),I Y n] w fun e w'=>∃v,e=Ra v/\gI w' v ((l.drop to).take n)/\Rl v≠N c/\jd w' base c ⟨l,to,to+n,J⟩/\w.grownBy w' (N c):=by
 obtain⟨h1,F,x,M,v,fp,d,y,i,R⟩:=h;have B:Rl v≠N c:=fun e=>dt _ (i c e);obtain⟨a,cap,rfl,s,u⟩:=y.gU;obtain rfl:fp=J:=R;obtain⟨b,off,rfl,-⟩:=u 0 (by simp only[]at r⊢;omega);have c0:Rn w ⟨c,0,J⟩=N (Q6 (N ⟨b,off,J⟩) (O l) cap):=aP w c 0 _ _ _ d;have c1:Rn w ⟨c,1,J⟩=N (I Y at'):=aP w c 1 _ _ _ d;have c2:Rn w ⟨c,2,J⟩=N (I Y to):=aP w c 2 _ _ _ d;have c3:Rn w ⟨c,3,J⟩=N (Q5 J):=aP w c 3 _ _ _ d;have f1:=dg w c 1 _ _ d;have f2:=dg w c 2 _ _ d;have f3:=dg w c 3 _ _ d;have X:=gm d;have S:=gj d;have HX:=gj u;simp only[]at h1 F x s;unfold im at x;clear d u;have k1:(to:Int)<=to+n:=by omega
 have k2:(to:Int)+n<=cap:=by omega
 have k3:to+n<=cap:=by omega
 have k4:¬(to:Int)+n<0:=by omega
 have Z:¬(O l:Int)-to<n:=by omega
 go_enter func157,ntmps157;go_wp2;go_quiet (fail);go_wp2;go_region
 all_goals (go_wp2;go_quiet (fail);go_wp2)
 go_ret;have U:to+n-to=n:=by omega
 have C:=QN w c 1 (I Y to) S.o;have D:=QN (Rp w ⟨c,1,J⟩ (I Y to)) c 2 (I Y (to+n:Nat)) C
 have j:∀k m,w.grownBy ((((w.drewN k).setCell ⟨c,1,J⟩ (I Y to)).setCell ⟨c,2,J⟩ (I Y (to+n:Nat))).drewN m) (N c):=fun k m=>
  sI (jf (jg ((gJ w).drewN k) 1 _) 2 _) m
 have q:∀k m,gI ((((w.drewN k).setCell ⟨c,1,J⟩ (I Y to)).setCell ⟨c,2,J⟩ (I Y (to+n:Nat))).drewN m) (Q6 (N ⟨b,off,J⟩) (O l) cap) l:=fun k m=>
  gE.grown y (j k m) (fun b V e=>B (by rw[V,e]))
 refine⟨_,rfl,?_,B,⟨r,fE _ _,by simp only[];unfold im;omega,M,Q6 (N ⟨b,off,J⟩) (O l) cap,J,D,q _ _,i,rfl⟩,j _ _⟩;have E:(l.take (to+n)).drop to=(l.drop to).take n:=by rw[List.drop_take,U]
 rw[<-E];exact((q _ _).sub to (to+n) (fE _ _) r).cap' gH
theorem oq{w:Q0}(b:Q8 (G (Q w)) w w')(r:Option Nat):w.grownBy w' r:=⟨b.os,b.tape,b.output,b.size,fun k hk _=>b.block k hk⟩
theorem nb(base c:Nat)(cu:Cu)(n:Nat)(w:Q0)(h:jd w base c cu)(m:base<=G (Q w))(b:n<=100)(i:1<=n):
  Rg prog 157 #[Q5 (N ⟨c,0,J⟩),I Y n] w fun e w'=>∃v,e=Ra v/\gI w' v (cu.take n).2/\Rl v≠N c/\jd w' base c (cu.take n).1/\w.grownBy w' (N c):=by
 obtain⟨l,at',to,f⟩:=cu;cases f with
 | some x=>obtain⟨k,p⟩:=x;exact(JH base c l at' to k p n w h b).mono fun e w' ⟨v,h1,o,q,j⟩=>⟨v,h1,o,q,h.iI j,oq j _⟩
 | none=>
  by_cases d:O l<to+n
  .simp only[Cu.take,aw d];exact JI base c l at' to n w h m b d
  .simp only[Cu.take,af d];exact L7 base c l at' to n w h b i (by omega)
theorem jd.xE{w:Q0}{l:gw}{at' to:Nat}(h:jd w base c ⟨l,at',to,J⟩)(s:base<=G (Q w))(k n:Nat)(m:Nat)(q:w1=(w.drewN m).alloc (Q1 #[I Y k,I Y n,.nilIface] 186)):
  jd (Rp w1 ⟨c,3,J⟩ (Q5 (N ⟨G (Q w),0,J⟩))) base c ⟨l,at',to,N (k,n)⟩/\w.grownBy (Rp w1 ⟨c,3,J⟩ (Q5 (N ⟨G (Q w),0,J⟩))) (N c):=by
 obtain⟨h1,u,x,y,v,fp,r,B,d,E⟩:=h;have C:Rl v≠N c:=fun e=>dt _ (d c e);have i:=gm r;have j:Q8 (G (Q w)) w w1:=by rw[q];exact((gJ w).drewN _).alloc gH _
 have g1:w1.heap[G (Q w)]?=N (Q1 #[I Y k,I Y n,.nilIface] 186 (0,0)):=by rw[q];exact gB (w.drewN _) _
 have o:=jg j 3 (Q5 (N ⟨G (Q w),0,J⟩)) (c:=c);refine⟨⟨h1,u,x,y,v,N ⟨G (Q w),0,J⟩,QN w1 c 3 _ (gC j i r),gE.grown B o (fun b D e=>C (by rw[D,e])),d,G (Q w),rfl,s,?_⟩,o⟩;exact(Below.heap_setCell w1 ⟨c,3,J⟩ _ (G (Q w)) (Nat.ne_of_gt i)).trans g1
theorem Lq(base c:Nat)(cu:Cu)(ok:Bool)(k:Nat)(w:Q0)(h:jd w base c cu)(b:cu.f≠J\/ok=true):
  Rg prog 186 #[Q5 (N ⟨c,0,J⟩),Rh ok,I Y k] w fun e w'=>e=Ra (Rc #[])/\jd w' base c (cu.mG ok k)/\w.grownBy w' (N c):=by
 have hm:cu.mG ok k=cu:=by
  unfold Cu.mG;rcases b with b|b
  .cases hc:cu.f with
   | none=>exact absurd hc b
   | some x=>rfl
  .cases hc:cu.f with
   | none=>simp[b]
   | some x=>rfl
 rw[hm];have H:=gj h;obtain⟨h1,s,u,y,v,fp,j,q,B,l⟩:=h;have c3:Rn w ⟨c,3,J⟩=N (Q5 fp):=aP w c 3 _ _ _ j;have r:=gm j;clear j q hm;by_cases d:ok=true
 .subst d;by_cases hc:fp=J
  .subst hc;go_enter func186,ntmps186;go_wp2;go_end0;exact⟨rfl,H.o,oq (gJ w) _⟩
  .obtain⟨a,rfl⟩:=df.1 hc;go_enter func186,ntmps186;go_wp2;go_end0;exact⟨rfl,H.o,oq (gJ w) _⟩
 .have i:cu.f≠J:=b.resolve_right d;obtain⟨x,m⟩:=df.1 i;rw[m]at l;obtain⟨g,rfl,-,-⟩:=l;clear b i m;go_enter func186,ntmps186;go_wp2;go_end0;exact⟨rfl,H.o,oq (gJ w) _⟩
theorem I5(base c:Nat)(l:gw)(at' to k:Nat)(w:Q0)(h:jd w base c ⟨l,at',to,J⟩)(q:base<=G (Q w)):
  Rg prog 186 #[Q5 (N ⟨c,0,J⟩),Rh false,I Y k] w fun e w'=>e=Ra (Rc #[])/\jd w' base c ⟨l,at',to,N (k,at')⟩/\w.grownBy w' (N c):=by
 have H:=gj h;obtain⟨h1,y,B,C,v,fp,b,r,D,s⟩:=h;obtain rfl:fp=J:=s;have c3:Rn w ⟨c,3,J⟩=N (Q5 J):=aP w c 3 _ _ _ b;have c1:Rn w ⟨c,1,J⟩=N (I Y at'):=aP w c 1 _ _ _ b;have m:=gj b;have d:=gm b;clear b r;go_enter func186,ntmps186;go_wp2_with (go_at_call 107;refine(lj _ _ _).mono ?_;rintro e w1 ⟨rfl,i⟩;have u:=gj i;have j:Q8 (G (Q w)) w w1:=(by rw[i];exact(gJ w).alloc gH _);have d3:Rn w1 ⟨c,3,J⟩=N (Q5 J):=aP _ c 3 _ _ _ (gC j d m.o);have E:w1.frozen? ⟨c,3,J⟩=false:=dg _ c 3 _ _ (gC j d m.o);have x:c<G (Q w1):=gm (gC j d m.o);clear i);go_end0;exact⟨rfl,H.o.xE q k at' 0 u.o⟩
theorem kZ(base c:Nat)(cu:Cu)(ok:Bool)(k:Nat)(w:Q0)(h:jd w base c cu)(d:base<=G (Q w)):
  Rg prog 186 #[Q5 (N ⟨c,0,J⟩),Rh ok,I Y k] w fun e w'=>e=Ra (Rc #[])/\jd w' base c (cu.mG ok k)/\w.grownBy w' (N c):=by
 by_cases b:cu.f≠J\/ok=true
 .exact Lq base c cu ok k w h b
 .obtain⟨l,at',to,f⟩:=cu;have h1:f=J:=by simpa using (not_or.1 b).1
  have i:ok=false:=by simpa using (not_or.1 b).2
  subst h1 i;exact I5 base c l at' to k w h d
def j6(l:gw):Nat:=l.foldl (fun v x=>v*256+x.toNat) 0
theorem Lt(l:gw)(x:UInt8):j6 (l++[x])=j6 l*256+x.toNat:=by simp[j6]
theorem rB(l:gw)(k:Nat)(h:k<O l):j6 (l.take (k+1))=j6 (l.take k)*256+l[k].toNat:=by rw[aC h,Lt]
theorem pR:∀(k:Nat) (l:gw),k<=O l->j6 (l.take k)<256^k
 | 0,l,_=>by simp[j6]
 | k+1,l,h=>by have ih:=pR k l (by omega);have b:=(l[k]'(by omega)).toNat_lt;rw[rB l k (by omega),Nat.pow_succ];omega
theorem Ix(base c:Nat)(cu:Cu)(w:Q0)(h:jd w base c cu)(i:cu.f≠J\/¬cu.to<O cu.l):
  Rg prog 188 #[Q5 (N ⟨c,0,J⟩)] w fun e w'=>e=Ra (Rc #[])/\jd w' base c cu.mT/\w.grownBy w' (N c):=by
 have hm:cu.mT=cu:=by
  unfold Cu.mT;cases hc:cu.f with
  | some x=>rfl
  | none=>simp[i.resolve_left (fun k=>k hc)]
 rw[hm];have H:=gj h;obtain⟨h1,B,C,D,v,fp,b,j,E,m⟩:=h;obtain⟨a,cap,rfl,r,-⟩:=j.gU;have c0:Rn w ⟨c,0,J⟩=N (Q6 a (O cu.l) cap):=aP w c 0 _ _ _ b;have c2:Rn w ⟨c,2,J⟩=N (I Y cu.to):=aP w c 2 _ _ _ b;have c3:Rn w ⟨c,3,J⟩=N (Q5 fp):=aP w c 3 _ _ _ b;have u:=gm b;clear b j hm;cases d:fp with
 | some p=>subst d;go_enter func188,ntmps188;go_wp2;go_quiet (fail);go_wp2;go_end0;exact⟨rfl,H.o.iI ((gJ w).drewN _),oq ((gJ w).drewN _) _⟩
 | none=>
  subst d;have q:cu.f=J:=by
   cases hc:cu.f with
   | none=>rfl
   | some x=>rw[hc]at m;obtain⟨g,s,_⟩:=m;cases s
  have y:¬(cu.to:Int)<O cu.l:=by have:=i.resolve_left (fun k=>k q);omega
  go_enter func188,ntmps188;go_wp2;go_quiet (fail);go_wp2;go_end0;exact⟨rfl,H.o.iI ((gJ w).drewN _),oq ((gJ w).drewN _) _⟩
theorem Ga(base c:Nat)(l:gw)(at' to:Nat)(w:Q0)(h:jd w base c ⟨l,at',to,J⟩)(r:base<=G (Q w))(C:to<O l):
  Rg prog 188 #[Q5 (N ⟨c,0,J⟩)] w fun e w'=>e=Ra (Rc #[])/\jd w' base c ⟨l,at',to,N (2,to)⟩/\w.grownBy w' (N c):=by
 have H:=gj h;obtain⟨h1,D,E,F,v,fp,b,q,M,s⟩:=h;obtain⟨a,cap,rfl,u,-⟩:=q.gU;obtain rfl:fp=J:=s;have c0:Rn w ⟨c,0,J⟩=N (Q6 a (O l) cap):=aP w c 0 _ _ _ b;have c2:Rn w ⟨c,2,J⟩=N (I Y to):=aP w c 2 _ _ _ b;have c3:Rn w ⟨c,3,J⟩=N (Q5 J):=aP w c 3 _ _ _ b;have m:=gj b;have d:=gm b;have B:(to:Int)<O l:=by omega
 clear b q;go_enter func188,ntmps188;go_wp2;go_quiet (fail);go_wp2_with (go_at_call 107;refine(lj _ _ _).mono ?_;rintro e w1 ⟨rfl,i⟩;have x:=gj i;have j:Q8 (G (Q w)) w w1:=(by rw[i];exact((gJ w).drewN _).alloc gH _);have d3:Rn w1 ⟨c,3,J⟩=N (Q5 J):=aP _ c 3 _ _ _ (gC j d m.o);have R:w1.frozen? ⟨c,3,J⟩=false:=dg _ c 3 _ _ (gC j d m.o);have y:c<G (Q w1):=gm (gC j d m.o);clear i);go_end0;exact⟨rfl,H.o.xE r 2 to _ x.o⟩
theorem Dt(base c:Nat)(cu:Cu)(w:Q0)(h:jd w base c cu)(i:base<=G (Q w)):
  Rg prog 188 #[Q5 (N ⟨c,0,J⟩)] w fun e w'=>e=Ra (Rc #[])/\jd w' base c cu.mT/\w.grownBy w' (N c):=by
 by_cases b:cu.f≠J\/¬cu.to<O cu.l
 .exact Ix base c cu w h b
 .obtain⟨l,at',to,f⟩:=cu;have h1:f=J:=by simpa using (not_or.1 b).1
  have d:to<O l:=Decidable.not_not.1 (not_or.1 b).2;subst h1;simp only[Cu.mT,aw d];exact Ga base c l at' to w h i d
theorem Cu.take_length(cu:Cu)(n:Nat):(cu.take n).2.length=n:=by
 unfold Cu.take;cases cu.f with
 | some x=>simp
 | none=>
  by_cases h:O cu.l<cu.to+n
  .simp[h]
  .simp[h];omega
theorem qv(base c:Nat)(cu:Cu)(w:Q0)(h:jd w base c cu)(y:base<=G (Q w)):
  Rg prog 156 #[Q5 (N ⟨c,0,J⟩)] w fun e w'=>e=Ra (I .u64 (j6 (cu.take 8).2))/\jd w' base c (cu.take 8).1/\w.grownBy w' (N c):=by
 obtain⟨l,hl⟩:∃l,l=(cu.take 8).2:=⟨_,rfl⟩;have B:O l=8:=by rw[hl,Cu.take_length]
 have C:=gj hl;rw[<-hl];clear hl;go_enter func156,ntmps156;go_wp2_with (go_at_call 157;refine(nb base c cu 8 _ h y (by decide) (by decide)).mono ?_;rintro e w1 ⟨v,rfl,d,q,r,s⟩;rw[<-C.o]at d;obtain⟨a,cap,rfl,D,u⟩:=d.gU;have E:=gj u;clear u d q);go_loop [3,9] (fun c i=>∃k:Nat,k<=8/\i=I Y k/\c=I .u64 (j6 (l.take k))) (fun _ i=>8-(intOf i).toNat)
 case atStart=>exact⟨0,by omega,rfl,by simp[j6]⟩
 case round=>
  obtain⟨k,hk,rfl,rfl⟩:=hrel;by_cases R:k<8
  .have j:=pR k l (by omega);have m:j6 (l.take k)<256^7:=ae j (dU (by decide) (by omega));have H:=gj (rB l k (by omega));obtain⟨b,off,rfl,x⟩:=E.o k (by omega);have M:=(l[k]'(by omega)).toNat_lt;generalize j6 (l.take k)=v at *
   clear j;have d:v<72057594037927936:=m;clear m;go_wp2;go_round
   case rel=>refine⟨k+1,by omega,by go_num,?_⟩;have F:v*256 ||| (l[k]'(by omega)).toNat=v*256+(l[k]'(by omega)).toNat:=nat_join 8 _ _ (by omega) (by omega);rw[show((v:Int)*256)=((v*256:Nat):Int) by omega,u64_or_nat _ _ (by omega) (by omega),F,H.o]
   case measure=>simp[intOf];omega
  .obtain rfl:k=8:=by omega
   rw[aW (by omega)];go_wp2;go_ret;exact⟨rfl,r,s⟩
abbrev K:=Int×gw
def kV(x:K):Q4:=nd x.1 x.2
theorem jT(em:Bool)(x:K)(w:Q0):(Instr.checkKey em 10000 103 (kV x)).run prog w=.ok () w:=by
 have h:∀n,(Instr.checkKey em (n+2) 103 (kV x)).run prog w=.ok () w:=by intro n;have h1:(part 3 #[I Y x.1,Q7 ⟨Rm x.2⟩] 0).run prog w=.ok (I Y x.1) w:=eh w (by kernel_rfl) rfl;have b:(part 9 #[I Y x.1,Q7 ⟨Rm x.2⟩] 1).run prog w=.ok (Q7 ⟨Rm x.2⟩) w:=eh w (by kernel_rfl) rfl;simp[Instr.checkKey,kV,nd,aO underlying103,aO underlying3,aO underlying9,h1,b,Result.andThen]
 exact h 9998
theorem yD(x y:K)(w:Q0):(Op.equal 103 (kV x) (kV y)).run prog w=.ok (x==y) w:=by
 have h1:∀x:K,(part 3 #[I Y x.1,Q7 ⟨Rm x.2⟩] 0).run prog w=.ok (I Y x.1) w:=fun x=>eh w (by kernel_rfl) rfl;have j:∀x:K,(part 9 #[I Y x.1,Q7 ⟨Rm x.2⟩] 1).run prog w=.ok (Q7 ⟨Rm x.2⟩) w:=fun x=>eh w (by kernel_rfl) rfl;obtain⟨a,b⟩:=x;obtain⟨c,d⟩:=y;have o:∀n,(Op.equalIn (n+2) 103 (nd a b) (nd c d)).run prog w=.ok ((a,b)==(c,d)) w:=by
  intro n;have q:((⟨Rm b⟩:ByteArray)==⟨Rm d⟩)=(b==d):=by
   cases i:(b==d) with
   | true=>rw[aT]at i;subst i;exact(dH _ _).2 rfl
   | false=>
    rw[ar]at i;cases r:((⟨Rm b⟩:ByteArray)==⟨Rm d⟩) with
    | false=>rfl
    | true=>have:=(dH _ _).1 r;simp at this;exact absurd this i
  have l:prog.underlying 103=N (.struct (prog.fieldsOf 103)):=by kernel_rfl
  have s:prog.stoodInHeld 103=false:=by kernel_rfl
  have u:=TypeDesc.struct.inj (Option.some.inj (l.symm.trans underlying103));have B:∀m (x y:Int),(Op.equalIn (m+1) 3 (I Y x) (I Y y)).run prog w=.ok (x==y) w:=fun m x y=>by simp[Op.equalIn,aO underlying3]
  have C:∀m (x y:ByteArray),(Op.equalIn (m+1) 9 (Q7 x) (Q7 y)).run prog w=.ok (x==y) w:=fun m x y=>by simp[Op.equalIn,aO underlying9]
  unfold nd;rw[run_equalIn_agg w (n+1) 103 _ _ l s,u];simp only[Op.eqFields];rw[aw (by decide),aw (by decide)];simp only[cI,h1 (a,b),h1 (c,d),B,cz];show _=Result.ok ((a==c)&&(b==d)) w;cases D:(a==c) with
  | false=>simp
  | true=>simp only[fK,ew,dA,cI,j (a,b),j (c,d),C,cz,q,Bool.true_and];cases(b==d)<;>simp
 exact o 9998
def ju(k:K):List (K×Q4)->Nat->Option (Nat×Q4)
 | [],_=>J
 | e::es,i=>if k==e.1 then N (i,e.2)else ju k es (i+1)
theorem oR(k:K)(w:Q0):∀(es:List MapEntry) (l:List (K×Q4)) (_:es.map (fun e=>(e.key,e.val))=l.map (fun x=>(kV x.1,x.2))),(Instr.findKey 103 (kV k) es).run prog w=.ok (ju k l 0) w:=by
 have go:∀(es:List MapEntry) (l:List (K×Q4)) (i:Nat) (_:es.map (fun e=>(e.key,e.val))=l.map (fun x=>(kV x.1,x.2))),(Instr.findAsking 103 (kV k) es i).run prog w=.ok (ju k l i) w:=by
  intro es
  induction es with
  | nil=>
   intro l i h;cases l with
   | nil=>rfl
   | cons x l=>cases h
  | cons e es ih=>
   intro l i h;cases l with
   | nil=>cases h
   | cons x l=>
    rw[bG,bG]at h;have h1:=(List.cons.inj h).1;have b:=(List.cons.inj h).2;have d:e.key=kV x.1:=(Prod.mk.inj h1).1;have j:e.val=x.2:=(Prod.mk.inj h1).2;unfold Instr.findAsking ju;rw[cI,d,yD];cases hk:(k==x.1) with
    | false=>rw[cz];exact ih l (i+1) b
    | true=>rw[j];rfl
 intro es l h;rw[run_findKey_eq w (k:=103) (by rw[underlying103])];exact go es l 0 h
theorem tw(x:K)(w:Q0):(Instr.keyThatStays (kV x) (kV x)).run prog w=.ok (kV x) w:=by
 have h:∀n,Instr.sameBits (n+2) (kV x) (kV x)=true:=by intro n;simp[Instr.sameBits,kV,nd];exact(dH _ _).2 rfl
 have b:Instr.sameBits 10000 (kV x) (kV x)=true:=h 9998;simp only[Instr.keyThatStays,b,dX];rfl
def ix(w:Q0)(r:Nat)(l:List (K×Q4)):Prop:=
 ∃es b,w.heap[r]?=N (.map es b)/\es.toList.map (fun e=>(e.key,e.val))=l.map (fun x=>(kV x.1,x.2))/\(∀e∈es.toList,e.born<b)/\(es.toList.map (·.born)).Nodup/\(l.map (·.1)).Nodup
theorem ix.lt{w:Q0}{r:Nat}{l:List (K×Q4)}(h:ix w r l):r<G (Q w):=by obtain⟨es,b,h,_⟩:=h;exact gm h
theorem ix.iI{w:Q0}{r:Nat}{l:List (K×Q4)}(h:ix w r l)(d:w'.heap[r]?=w.heap[r]?):ix w' r l:=by obtain⟨es,b,h,x⟩:=h;exact⟨es,b,d.trans h,x⟩
theorem ix.new(w:Q0):ix (Ro w (.map #[] 0)) (G (Q w)) []:=⟨#[],0,gB _ _,rfl,by simp,by simp,by simp⟩
def rV(k:K)(l:List (K×Q4)):Option Q4:=(l.find? (fun x=>k==x.1)).map (·.2)
theorem oH(k:K):∀(l:List (K×Q4)) (i:Nat),(ju k l i).map (·.2)=rV k l
 | [],i=>rfl
 | x::l,i=>by
  unfold ju rV;rw[dL];cases h:(k==x.1) with
  | true=>rfl
  | false=>exact oH k l (i+1)
theorem Bc(k:K):∀(l:List (K×Q4)) (i:Nat),(∀x∈l,x.1≠k)->ju k l i=J
 | [],i,_=>rfl
 | x::l,i,h=>by
  unfold ju;have:(k==x.1)=false:=by rw[ar];exact fun e=>h x cy e.symm
  rw[this];exact Bc k l (i+1) fun y b=>h y (aR _ b)
section
variable {w:Q0} {r:Nat} {l:List (K×Q4)} {mt e:Ri} {z:Q4}
theorem ix.lookup(h:ix w r l)(d:prog.underlying mt=N (.map 103 e))(o:(zeroValue e).run prog w=.ok z w)(k:K):
  (Instr.lookup mt (.map (N r)) (kV k) false).run prog w=.ok ((rV k l).getD z) w:=by
 obtain⟨es,m,j,hl,_⟩:=h;have b:=oR k w es.toList l hl;rw[<-oH k l 0];cases hk:ju k l 0 with
 | none=>rw[hk]at b;simp[Instr.lookup,aO d,aL j,jT,b,o,Result.andThen]
 | some x=>rw[hk]at b;obtain⟨i,v⟩:=x;simp[Instr.lookup,aO d,aL j,jT,b,Result.andThen]
theorem ix.mX(h:ix w r l)(d:prog.underlying mt=N (.map 103 e))(o:(zeroValue e).run prog w=.ok z w)(k:K):
  (Instr.lookup mt (.map (N r)) (kV k) true).run prog w=.ok (Rc #[(rV k l).getD z,Rh (rV k l).isSome]) w:=by
 obtain⟨es,m,j,hl,_⟩:=h;have b:=oR k w es.toList l hl;rw[<-oH k l 0];cases hk:ju k l 0 with
 | none=>rw[hk]at b;simp[Instr.lookup,aO d,aL j,jT,b,o,Result.andThen]
 | some x=>rw[hk]at b;obtain⟨i,v⟩:=x;simp[Instr.lookup,aO d,aL j,jT,b,Result.andThen]
end
open Go.WideElems Go.WideMaps Go.ChangeMaps
def qH(k:K)(v:Q4)(l:List (K×Q4)):List (K×Q4):=
 match ju k l 0 with
 | some (j,_)=>l.set j (k,v)
 | none=>l++[(k,v)]
def F6(k:K)(l:List (K×Q4)):List (K×Q4):=
 match ju k l 0 with
 | some (j,_)=>l.eraseIdx j
 | none=>l
theorem mO(k:K):∀(l:List (K×Q4)) (i j:Nat) (v:Q4),ju k l i=N (j,v)->i<=j/\l[j-i]?=N (k,v)
 | [],_,_,_,h=>by simp[ju]at h
 | x::l,i,j,v,h=>by
  unfold ju at h;cases hk:(k==x.1) with
  | true=>rw[hk,aw rfl]at h;cases h;rw[aT]at hk;subst hk;simp
  | false=>rw[hk,af (by simp)]at h;obtain⟨h1,b⟩:=mO k l (i+1) j v h;refine⟨by omega,?_⟩;rw[show j-i=(j-(i+1))+1 by omega,aX];exact b
theorem kY(k:K):∀(l:List (K×Q4)) (i:Nat),ju k l i=J->∀x∈l,x.1≠k
 | [],_,_,x,b=>by simp at b
 | y::l,i,h,x,b=>by
  unfold ju at h;cases hk:(k==y.1) with
  | true=>rw[hk,aw rfl]at h;cases h
  | false=>
   rw[hk,af (by simp)]at h;rcases aZ.1 b with rfl|b
   .rw[ar]at hk;exact fun e=>hk e.symm
   .exact kY k l (i+1) h x b
theorem tu{l:List (K×Q4)}{j:Nat}{k:K}{u:Q4}(h:l[j]?=N (k,u)):(l.set j (k,v)).map (·.1)=l.map (·.1):=by rw[dy];exact set_self _ _ _ (by rw[bg,h];rfl)
theorem iR{w:Q0}{r:Nat}{es:Array MapEntry}{b:Nat}(h:w.heap[r]?=N (.map es b)):w.grownBy (setBlock w r o') (N r):=
 ⟨rfl,rfl,rfl,by simp[setBlock],fun k _ hk=>heap_setBlock_other h _ (fun e=>hk (by rw[e]))⟩
theorem iG{w:Q0}{r:Nat}{o:Obj}(h:w.heap[r]?=N o):(setBlock w r o').heap[r]?=N o':=by have b:=gm h;simp[setBlock,b]
section
variable {w:Q0} {r:Nat} {l:List (K×Q4)} {mt e:Ri} {z:Q4}
theorem ix.entry(h:ix w r l)(ht:prog.underlying mt=N (.map 103 e))(hz:∀u:Q0,(zeroValue e).run prog u=.ok z u)(k:K):
  ∃q st,(∀n,(Instr.mapEntry mt (.map (N r)) (kV k)).run prog (w.drewN n)=.ok (Rc #[(rV k l).getD z,goInt st]) (q.drewN n))/\ix q r (qH k ((rV k l).getD z) l)/\w.grownBy q (N r)/\G (Q q)=G (Q w)/\
   ∀v,∃M,(∀n,(Instr.entryStore mt (.map (N r)) (goInt st) v).run prog (q.drewN n)=.ok () (M.drewN n))/\ix M r (qH k v l)/\q.grownBy M (N r)/\G (Q M)=G (Q q):=by
 obtain⟨es,b,E,hl,hc,R,hk⟩:=h;have S:∀n,(Instr.findKey 103 (kV k) es.toList).run prog (w.drewN n)=.ok (ju k l 0) (w.drewN n):=fun n=>oR k (w.drewN n) es.toList l hl;have y:∀n,(w.drewN n).heap[r]?=N (.map es b):=fun n=>E;rw[<-oH k l 0];unfold qH;cases B:ju k l 0 with
 | none=>
  rw[B]at S;have aa:=kY k l 0 B;have U:(es.push ⟨kV k,z,b⟩).toList.map (·.born)=es.toList.map (·.born)++[b]:=by simp
  have F:((es.push ⟨kV k,z,b⟩).toList.map (·.born)).Nodup:=by rw[U];refine cE.2 ⟨R,by simp,fun a ha c C e1=>?_⟩;simp only[ay]at C;obtain⟨x,i,rfl⟩:=aA.1 ha;have:=hc x i;omega
  have X:∀v:Q4,((l++[(k,v)]).map (·.1)).Nodup:=fun v=>by rw[bj];refine cE.2 ⟨hk,by simp,fun a ha c C e1=>?_⟩;simp at C;obtain⟨x,i,rfl⟩:=aA.1 ha;exact aa x i (e1.trans C)
  have Z:∀v:Q4,∀x∈(es.push ⟨kV k,v,b⟩).toList,x.born<b+1:=by
   intro v x i;simp at i;rcases i with i|rfl
   .have:=hc x (by simpa using i);omega
   .simp
  have d:(setBlock w r (.map (es.push ⟨kV k,z,b⟩) (b+1))).heap[r]?=N (.map (es.push ⟨kV k,z,b⟩) (b+1)):=iG E
  refine⟨setBlock w r (.map (es.push ⟨kV k,z,b⟩) (b+1)),b,fun n=>?_,⟨_,_,d,by simp[hl],Z z,F,X _⟩,iR E,by simp[setBlock],
   fun v=>⟨setBlock (setBlock w r (.map (es.push ⟨kV k,z,b⟩) (b+1))) r (.map (es.push ⟨kV k,v,b⟩) (b+1)),fun n=>?_,⟨_,_,iG d,by simp[hl],Z v,by simpa using F,X _⟩,iR d,by simp[setBlock]⟩⟩
  .simp[Instr.mapEntry,aO ht,aL (y n),jT,S,hz,bW _ (y n),Result.andThen];rfl
  .have s:(es.push ⟨kV k,z,b⟩).findIdx? (fun e=>((e.born:Nat):Int)==((b:Nat):Int))=N es.size:=by
    rw[findIdx_arr];exact findIdx_born (l:=(es.push ⟨kV k,z,b⟩).toList) (j:=es.size) (e0:=⟨kV k,z,b⟩) F (by simp)
   have ag:(es.push ⟨kV k,z,b⟩).modify es.size (fun e=>{e with val:=v})=es.push ⟨kV k,v,b⟩:=by apply Array.ext';rw[cf,fY,fY,<-ei,modify_last]
   have m:((setBlock w r (.map (es.push ⟨kV k,z,b⟩) (b+1))).drewN n).heap[r]?=N (.map (es.push ⟨kV k,z,b⟩) (b+1)):=d;simp[Instr.entryStore,aL m,asInt,asIntOf,goInt,s,ag,bW _ m,Result.andThen];rfl
 | some x=>
  obtain⟨j,u⟩:=x;rw[B]at S;obtain⟨-,V⟩:=mO k l 0 j u B;rw[cO]at V;have ap:∃e0,es.toList[j]?=N e0/\e0.key=kV k/\e0.val=u:=by
   have h1:(es.toList.map (fun e=>(e.key,e.val)))[j]?=N (kV k,u):=by rw[hl,bg,V];rfl
   rw[bg]at h1;obtain⟨e0,o,D⟩:=cH.1 h1;exact⟨e0,o,(Prod.mk.inj D).1,(Prod.mk.inj D).2⟩
  obtain⟨e0,o,D,h4⟩:=ap;have av:es[j]?=N e0:=by simpa using o
  have W:es.modify j (fun e=>{e with key:=kV k})=es:=by
   apply Array.ext';rw[cf,du _ _ _ _ o];have:({e0 with key:=kV k} : MapEntry)=e0:=by rw[<-D]
   rw[this];exact set_self _ _ _ o
  have ak:l.set j (k,u)=l:=set_self _ _ _ V;simp only[et,bZ,ak];have d:(setBlock w r (.map es b)).heap[r]?=N (.map es b):=iG E
  refine⟨setBlock w r (.map es b),e0.born,fun n=>?_,⟨_,_,d,hl,hc,R,hk⟩,iR E,by simp[setBlock],
   fun v=>⟨setBlock (setBlock w r (.map es b)) r (.map (es.modify j (fun e=>{e with val:=v})) b),fun n=>?_,⟨_,_,iG d,?_,?_,?_,?_⟩,iR d,by simp[setBlock]⟩⟩
  .simp[Instr.mapEntry,aO ht,aL (y n),jT,S,av,D,tw,W,bW _ (y n),Result.andThen];rfl
  .have s:es.findIdx? (fun e=>((e.born:Nat):Int)==((e0.born:Nat):Int))=N j:=by
    rw[findIdx_arr];exact findIdx_born R o
   have m:((setBlock w r (.map es b)).drewN n).heap[r]?=N (.map es b):=d;simp[Instr.entryStore,aL m,asInt,asIntOf,goInt,s,bW _ m,Result.andThen];rfl
  .rw[cf,du _ _ _ _ o,dy,hl,dy,D]
  .intro x i;rw[cf,du _ _ _ _ o]at i;rcases di i with i|rfl
   .exact hc x i
   .exact hc e0 (be o)
  .rw[cf,du _ _ _ _ o,dy];rw[set_self _ _ _ (by rw[bg,o];rfl)];exact R
  .rw[tu V];exact hk
end
section
variable {w:Q0} {r:Nat} {l:List (K×Q4)} {mt e:Ri} {z:Q4}
theorem ix.update(h:ix w r l)(M:prog.underlying mt=N (.map 103 e))(k:K)(v:Q4):
  ∃y,(∀n,(Instr.mapUpdate mt (.map (N r)) (kV k) v).run prog (w.drewN n)=.ok () (y.drewN n))/\ix y r (qH k v l)/\w.grownBy y (N r)/\G (Q y)=G (Q w):=by
 obtain⟨es,b,s,hl,hc,R,hk⟩:=h;have B:∀n,(Instr.findKey 103 (kV k) es.toList).run prog (w.drewN n)=.ok (ju k l 0) (w.drewN n):=fun n=>oR k (w.drewN n) es.toList l hl;have m:∀n,(w.drewN n).heap[r]?=N (.map es b):=fun n=>s;unfold qH;cases o:ju k l 0 with
 | none=>
  rw[o]at B;have E:=kY k l 0 o;have C:(es.push ⟨kV k,v,b⟩).toList.map (·.born)=es.toList.map (·.born)++[b]:=by simp
  have S:((es.push ⟨kV k,v,b⟩).toList.map (·.born)).Nodup:=by rw[C];refine cE.2 ⟨R,by simp,fun a ha c q U=>?_⟩;simp only[ay]at q;obtain⟨x,d,rfl⟩:=aA.1 ha;have:=hc x d;omega
  have V:((l++[(k,v)]).map (·.1)).Nodup:=by rw[bj];refine cE.2 ⟨hk,by simp,fun a ha c q U=>?_⟩;simp at q;obtain⟨x,d,rfl⟩:=aA.1 ha;exact E x d (U.trans q)
  have W:∀x∈(es.push ⟨kV k,v,b⟩).toList,x.born<b+1:=by
   intro x d;simp at d;rcases d with d|rfl
   .have:=hc x (by simpa using d);omega
   .simp
  refine⟨setBlock w r (.map (es.push ⟨kV k,v,b⟩) (b+1)),fun n=>?_,⟨_,_,iG s,by simp[hl],W,S,V⟩,iR s,by simp[setBlock]⟩;simp[Instr.mapUpdate,aO M,aL (m n),jT,B,bW _ (m n),Result.andThen];rfl
 | some x=>
  obtain⟨j,u⟩:=x;rw[o]at B;obtain⟨-,F⟩:=mO k l 0 j u o;rw[cO]at F;have X:∃e0,es.toList[j]?=N e0/\e0.key=kV k/\e0.val=u:=by
   have h1:(es.toList.map (fun e=>(e.key,e.val)))[j]?=N (kV k,u):=by rw[hl,bg,F];rfl
   rw[bg]at h1;obtain⟨e0,i,D⟩:=cH.1 h1;exact⟨e0,i,(Prod.mk.inj D).1,(Prod.mk.inj D).2⟩
  obtain⟨e0,i,D,h4⟩:=X;have Z:es[j]?=N e0:=by simpa using i
  refine⟨setBlock w r (.map (es.modify j (fun e=>{e with key:=kV k,val:=v})) b),fun n=>?_,⟨_,_,iG s,?_,?_,?_,?_⟩,iR s,by simp[setBlock]⟩
  .simp[Instr.mapUpdate,aO M,aL (m n),jT,B,Z,D,tw,bW _ (m n),Result.andThen];rfl
  .rw[cf,du _ _ _ _ i,dy,hl,dy]
  .intro x d;rw[cf,du _ _ _ _ i]at d;rcases di d with d|rfl
   .exact hc x d
   .exact hc e0 (be i)
  .rw[cf,du _ _ _ _ i,dy];rw[set_self _ _ _ (by rw[bg,i];rfl)];exact R
  .show((l.set j (k,v)).map (·.1)).Nodup;rw[tu F];exact hk
theorem oU{α β:Type}(f:α->β):∀(l:List α) (j:Nat),(l.eraseIdx j).map f=(l.map f).eraseIdx j
 | [],_=>by simp
 | x::l,0=>rfl
 | x::l,j+1=>by simp[oU f l j]
theorem ix.delete(h:ix w r l)(y:prog.underlying mt=N (.map 103 e))(k:K)(t2 ty:Ri):
  ∃o,(∀n,(Builtin.delete_ #[mt,t2] ty #[.map (N r),kV k]).run prog (w.drewN n)=.ok (Rc #[]) (o.drewN n))/\ix o r (F6 k l)/\w.grownBy o (N r)/\G (Q o)=G (Q w):=by
 obtain⟨es,b,m,hl,hc,B,hk⟩:=h;have q:∀n,(Instr.findKey 103 (kV k) es.toList).run prog (w.drewN n)=.ok (ju k l 0) (w.drewN n):=fun n=>oR k (w.drewN n) es.toList l hl;have i:∀n,(w.drewN n).heap[r]?=N (.map es b):=fun n=>m;unfold F6;cases s:ju k l 0 with
 | none=>rw[s]at q;refine⟨setBlock w r (.map es b),fun n=>?_,⟨_,_,iG m,hl,hc,B,hk⟩,iR m,by simp[setBlock]⟩;simp[Builtin.delete_,aO y,aL (i n),jT,q,bW _ (i n),Result.andThen];rfl
 | some x=>
  obtain⟨j,u⟩:=x;rw[s]at q;have d:(es.eraseIdxIfInBounds j).toList=es.toList.eraseIdx j:=by
   unfold Array.eraseIdxIfInBounds;split
   .simp
   .rw[List.eraseIdx_of_length_le (by rw[ei];omega)]
  refine⟨setBlock w r (.map (es.eraseIdxIfInBounds j) b),fun n=>?_,⟨_,_,iG m,?_,?_,?_,?_⟩,iR m,by simp[setBlock]⟩
  .simp[Builtin.delete_,aO y,aL (i n),jT,q,bW _ (i n),Result.andThen];rfl
  .rw[d,oU,hl,oU]
  .intro x C;rw[d]at C;exact hc x ((List.eraseIdx_sublist _ _).subset C)
  .rw[d,oU];exact B.sublist (List.eraseIdx_sublist _ _)
  .show((l.eraseIdx j).map (·.1)).Nodup;rw[oU];exact hk.sublist (List.eraseIdx_sublist _ _)
end
structure kv where
 kind:Int
 table:Int
 key:gw
 val:gw
deriving DecidableEq
def ud(o:kv):Q4:=.agg #[I Y o.kind,I Y o.table,Q7 ⟨Rm o.key⟩,Q7 ⟨Rm o.val⟩]
def kg(w:Q0)(r:Nat)(b:List K):Prop:=ix w r (b.map fun k=>(k,I Y 1))
theorem ri{w:Q0}{c:Option Nat}(h:w.grownBy w1 c)(k:w1.grownBy w2 c):w.grownBy w2 c:=
 ⟨k.os.trans h.os,k.tape.trans h.tape,k.output.trans h.output,au h.size k.size,fun i d b=>(k.block i (ae d h.size) b).trans (h.block i d b)⟩
theorem ED{w:Q0}{c:Option Nat}{r:Nat}(h:w.grownBy w1 c)(k:w1.grownBy w2 (N r))(j:G (Q w)<=r):w.grownBy w2 c:=
 ⟨k.os.trans h.os,k.tape.trans h.tape,k.output.trans h.output,au h.size k.size,fun i b d=>(k.block i (ae b h.size) (fun e=>by cases e;omega)).trans (h.block i b d)⟩
theorem jd.vG{w:Q0}(h:jd w base c cu)(d:cu.f≠J):∃g,Rn w ⟨c,3,J⟩=N (Q5 (N ⟨g,0,J⟩)):=by obtain⟨h1,l,m,o,v,fp,i,q,r,b⟩:=h;obtain⟨x,j⟩:=df.1 d;rw[j]at b;obtain⟨g,rfl,-,-⟩:=b;exact⟨g,aP w c 3 _ _ _ i⟩
theorem jd.nt{w:Q0}(h:jd w base c cu)(d:cu.f=J):Rn w ⟨c,3,J⟩=N (Q5 J):=by obtain⟨h1,j,l,m,v,fp,i,o,q,b⟩:=h;rw[d]at b;obtain rfl:fp=J:=b;exact aP w c 3 _ _ _ i
theorem PQ(base c r:Nat)(cu:Cu)(x y:UInt8)(d j:Bool)(w:Q0)(h:jd w base c cu)(hb:base<=G (Q w))(hh:(cu.take 2).2=[x,y])(hk:(x.toNat<1/\d=false)\/(1<=x.toNat/\x.toNat<2/\d=true)\/(2<=x.toNat/\x.toNat<3/\d=true)\/(3<=x.toNat/\d=false))(E:(y.toNat<3/\j=true)\/(3<=y.toNat/\j=false))(V:(((cu.take 2).1.mG d 6).mG j 6).f≠J):
  Rg prog 187 #[Q5 (N ⟨c,0,J⟩),.map (N r)] w fun e w'=>e=Ra (ud ⟨x.toNat,y.toNat,[],[]⟩)/\jd w' base c (((cu.take 2).1.mG d 6).mG j 6)/\w.grownBy w' (N c):=by
 have hx:=x.toNat_lt;have hy:=y.toNat_lt;have H0:=gj (gB w (Q1 #[I Y 0,I Y 0,Q7 ⟨#[]⟩,Q7 ⟨#[]⟩] 105));have W:=h.lt;have HF:=gj V;clear V;have X:decide ((y.toNat:Int)<3)=j:=by
  rcases E with ⟨h,rfl⟩|⟨h,rfl⟩
  .exact bh (by omega)
  .exact aF (by omega)
 have HD:=gj X;have Z:((x.toNat:Int)==1 || (x.toNat:Int)==2)=d:=by
  rcases hk with ⟨h,rfl⟩|⟨h,h',rfl⟩|⟨h,h',rfl⟩|⟨h,rfl⟩
  .rw[fv,ar,ar];omega
  .rw[dK,aT,aT];omega
  .rw[dK,aT,aT];omega
  .rw[fv,ar,ar];omega
 have HO:=gj Z;clear X E Z;have ag:G (Q w)<(Ro w (Q1 #[I Y 0,I Y 0,Q7 ⟨#[]⟩,Q7 ⟨#[]⟩] 105)).heap.size:=by simp
 go_enter func187,ntmps187;go_wp2_with fail;refine(nb base c cu 2 _ (h.iI ((gJ w).alloc gH _)) (by simp;omega) (by decide) (by decide)).mono ?_;rintro e w1 ⟨v,rfl,R,-,F,q⟩;rw[hh]at R;obtain⟨a,cap,rfl,S,s⟩:=R.gU;obtain⟨b,off,rfl,M⟩:=s 0 (by simp);obtain⟨b',a2,he,ak⟩:=s 1 (by simp);cases he;simp only[cL,cG,eG]at M ak;have a3:=gK M;clear s R;simp only[ao,aI]at S;have u:=q.size;have H1:=gj ((q.block (G (Q w)) ag (fun e=>by cases e;omega)).trans H0.o);have a4:=F.lt;go_wp2;go_region;have ht:((((x.toNat:Int)==1)=false/\((x.toNat:Int)==2)=false/\d=false)\/(((x.toNat:Int)==1)=true/\d=true)\/(((x.toNat:Int)==1)=false/\((x.toNat:Int)==2)=true/\d=true)):=by rw[<-HO.o];cases h1:((x.toNat:Int)==1)<;>cases h2:((x.toNat:Int)==2)<;>simp
 clear hk;rcases ht with ⟨t1,t2,rfl⟩|⟨t1,rfl⟩|⟨t1,t2,rfl⟩
 all_goals
  have H2:=gj (gB w1 (Q1 #[I Y x.toNat,I Y y.toNat,Q7 ⟨#[]⟩,Q7 ⟨#[]⟩] 105));go_wp2_with fail
  try rw[HO.o]
  refine(kZ base c _ _ 6 _ (F.iI (((gJ w1).alloc gH _).drew)) (by simp at u⊢;omega)).mono ?_;rintro e w2 ⟨rfl,U,m⟩;have B:=gj ((m.block (G (Q w1)) (by simp) (fun e=>by cases e;omega)).trans H2.o);have H4:=gj ((m.block (G (Q w)) (by simp at u⊢;omega) (fun e=>by cases e;omega)).trans (gP w1 _ H1.o));have d0:Rn w2 ⟨G (Q w1),0,J⟩=N (I Y x.toNat):=gr 0 B.o;have d1:Rn w2 ⟨G (Q w1),1,J⟩=N (I Y y.toNat):=gr 1 B.o;have a7:=gm B.o;have am:=m.size;go_wp2_with fail
  try rw[HD.o]
  refine(kZ base c _ _ 6 _ U (by simp at u am⊢;omega)).mono ?_;rintro e w3 ⟨rfl,l,C⟩;have D:=gj ((C.block (G (Q w1)) (gm B.o) (fun e=>by cases e;omega)).trans B.o);have i:=gj ((C.block (G (Q w)) (gm H4.o) (fun e=>by cases e;omega)).trans H4.o);have q0:Rn w3 ⟨G (Q w1),0,J⟩=N (I Y x.toNat):=gr 0 D.o;have q1:Rn w3 ⟨G (Q w1),1,J⟩=N (I Y y.toNat):=gr 1 D.o;have q2:Rn w3 ⟨G (Q w1),2,J⟩=N (Q7 ⟨#[]⟩):=gr 2 D.o;have q3:Rn w3 ⟨G (Q w1),3,J⟩=N (Q7 ⟨#[]⟩):=gr 3 D.o;have p0:Rn w3 ⟨G (Q w),0,J⟩=N (I Y 0):=gr 0 i.o;have p1:Rn w3 ⟨G (Q w),1,J⟩=N (I Y 0):=gr 1 i.o;have p2:Rn w3 ⟨G (Q w),2,J⟩=N (Q7 ⟨#[]⟩):=gr 2 i.o;have p3:Rn w3 ⟨G (Q w),3,J⟩=N (Q7 ⟨#[]⟩):=gr 3 i.o;have e0:=gD 0 i.o;have e1:=gD 1 i.o;have e2:=gD 2 i.o;have e3:=gD 3 i.o;have bc:=gm D.o;have bi:=gm i.o;obtain⟨g,bl⟩:=l.vG HF.o;have bk:=l.lt;go_wp2;refine ai (v:=ud ⟨x.toNat,y.toNat,[],[]⟩) (by simp[results,results187,go_sem,ud,p0,p1,p2,p3]) rfl ⟨rfl,?_,?_⟩
  .exact l.grown (r:=G (Q w)) (jf (jf (jf (jg (gJ w3) 0 _) 1 _) 2 _) 3 _) W (fun k n=>by rw[i.o];simp)
  .have g1:=ri (oq ((gJ w).alloc gH _) (N c)) q;have g2:=fun o=>ri g1 (oq (((gJ w1).alloc gH o).drew) (N c));exact ED (ri (ri (g2 _) m) C) (jf (jf (jf (jg (gJ w3) 0 _) 1 _) 2 _) 3 _) gH
theorem Hh(w:Q0)(l:gw)(hl:O l<=im):
  ∃cap,(convert 9 112 (Q7 ⟨Rm l⟩)).run prog w=.ok (Q6 (N ⟨G (Q w),0,J⟩) (O l) cap)
   (w.drew.alloc (Q1 (bytesRow ⟨Rm l⟩ cap) 5 ((bytesRow ⟨Rm l⟩ cap).size,(bytesRow ⟨Rm l⟩ cap).size+1)))/\
   gS (w.drew.alloc (Q1 (bytesRow ⟨Rm l⟩ cap) 5 ((bytesRow ⟨Rm l⟩ cap).size,(bytesRow ⟨Rm l⟩ cap).size+1))) (G (Q w)) 1 (Q6 (N ⟨G (Q w),0,J⟩) (O l) cap) (O l) (l6 l):=by
 have i:(⟨Rm l⟩:ByteArray).size=O l:=by simp[ByteArray.size]
 have h:=run_bytes_of_string (P:=prog) w 9 112 5 ⟨Rm l⟩ underlying9 underlying112 underlying5;rw[i]at h;refine⟨_,h,?_⟩;have b:=grownCap_ge w (O l) 0 5;have hmx:maxLen=9223372036854775807:=rfl;have d:=grownCap_le_maxLen w (O l) 0 5 (by unfold im at hl;omega);have j:(bytesRow ⟨Rm l⟩ (grownCap w (O l) 0 5)).size=grownCap w (O l) 0 5:=by simp[bytesRow];omega
 have:=gS.new w.drew (bytesRow ⟨Rm l⟩ (grownCap w (O l) 0 5)) 5 (bytesRow ⟨Rm l⟩ (grownCap w (O l) 0 5)).size ((bytesRow ⟨Rm l⟩ (grownCap w (O l) 0 5)).size+1) (G (Q w)) 1 (O l) (grownCap w (O l) 0 5) gH b d (by omega) (.inr (by omega));have e:(bytesRow ⟨Rm l⟩ (grownCap w (O l) 0 5)).toList.take (O l*1)=l6 l:=by simp[bytesRow,l6]
 rw[e]at this;exact this
theorem Hn{o:Oper}{K:Act->Q0->Prop}{w:Q0}(x:Operand)(i:o.op=.convert 9 112 x)(l:gw)(j:a.eval x=Q7 ⟨Rm l⟩)(hl:O l<=im)(h:∀cap w',gS w' (G (Q w)) 1 (Q6 (N ⟨G (Q w),0,J⟩) (O l) cap) (O l) (l6 l)->Q8 (G (Q w)) w w'->G (Q w)<G (Q w')->K (a.put o.dst (Q6 (N ⟨G (Q w),0,J⟩) (O l) cap)) w'):o.wp prog a w K b:=by obtain⟨cap,m,d⟩:=Hh w l hl;have q:Q8 (G (Q w)) w (w.drew.alloc (Q1 (bytesRow ⟨Rm l⟩ cap) 5 ((bytesRow ⟨Rm l⟩ cap).size,(bytesRow ⟨Rm l⟩ cap).size+1))):=((gJ w).drew).alloc gH _;unfold Oper.wp execOp;simp only[i,j,cI,m,cz];exact h cap _ d q (by simp)
theorem Aa{iS:Array Oper}{o:Oper}{w:Q0}(d:o.guard=J)(x:Operand)(i:o.op=.convert 9 112 x)(l:gw)(j:a.eval x=Q7 ⟨Rm l⟩)(hl:O l<=im)(h:∀cap w',gS w' (G (Q w)) 1 (Q6 (N ⟨G (Q w),0,J⟩) (O l) cap) (O l) (l6 l)->Q8 (G (Q w)) w w'->G (Q w)<G (Q w')->wpList prog iS b rest (a.put o.dst (Q6 (N ⟨G (Q w),0,J⟩) (O l) cap)) w'):wpList prog iS b (o::rest) a w:=
 eN d fun _ hK=>Hn x i l j hl fun cap w' h1 m q=>hK _ _ (h cap w' h1 m q)
theorem Fq{o:Oper}{K:Act->Q0->Prop}{w:Q0}(x:Operand)(d:o.op=.convert 112 9 x)(l:gw)(i:gI w (a.eval x) l)(h:K (a.put o.dst (Q7 ⟨Rm l⟩)) w):o.wp prog a w K b:=by unfold Oper.wp execOp;simp only[d,cI,i.convert,cz];exact h
theorem iL{iS:Array Oper}{o:Oper}{w:Q0}(d:o.guard=J)(x:Operand)(i:o.op=.convert 112 9 x)(l:gw)(j:gI w (a.eval x) l)(h:wpList prog iS b rest (a.put o.dst (Q7 ⟨Rm l⟩)) w):wpList prog iS b (o::rest) a w:=
 eN d fun _ hK=>Fq x i l j (hK _ _ h)
theorem xd(b:P.underlying t=N .string)(l:gw)(k:IntKind)(n:Int)(d:0<=n)(h:n<=O l)(w:Q0):
  (Instr.slice t (Q7 ⟨Rm l⟩) J (N (I k n)) J).run P w=.ok (Q7 ⟨(l.take n.toNat).toArray⟩) w:=by
 rw[run_slice_string_h w t ⟨Rm l⟩ b k n d (by simp[ByteArray.size];omega),ByteArray.extract_mk];simp
theorem xZ(b:P.underlying t=N .string)(l:gw)(k:IntKind)(n:Int)(d:0<=n)(h:n<=O l)(w:Q0):
  (Instr.slice t (Q7 ⟨Rm l⟩) (N (I k n)) J J).run P w=.ok (Q7 ⟨(l.drop n.toNat).toArray⟩) w:=by
 rw[run_slice_string_l w t ⟨Rm l⟩ b k n d (by simp[ByteArray.size];omega),ByteArray.extract_mk,aW (by simp[ByteArray.size])]
theorem oJ(d:P.underlying t=N .string)(l:gw)(k b:IntKind)(i j:Int)(m:0<=i)(h1:i<=j)(h:j<=O l)(w:Q0):
  (Instr.slice t (Q7 ⟨Rm l⟩) (N (I k i)) (N (I b j)) J).run P w=.ok (Q7 ⟨((l.drop i.toNat).take (j.toNat-i.toNat)).toArray⟩) w:=by
 rw[run_slice_string w t ⟨Rm l⟩ k b i j d m h1 (by simp[ByteArray.size];omega),ByteArray.extract_mk]
@[simp] theorem be4_length (n:Nat):(yX n).length=4:=rfl
theorem lh{iS:Array Oper}{o:Oper}{w:Q0}(d:o.guard=J)(x y:Operand)(i:o.op=.binOp .add 9 x y 9)(p q:gw)(j:a.eval x=Q7 ⟨Rm p⟩)(l:a.eval y=Q7 ⟨Rm q⟩)(hl:O p+O q<=9223372036854775807)(h:wpList prog iS b rest (a.put o.dst (Q7 ⟨(p++q).toArray⟩)) w):wpList prog iS b (o::rest) a w:=
 eN d fun K hK=>by
  have m:(Op.stringOp .add ⟨Rm p⟩ ⟨Rm q⟩).run prog w=.ok (Q7 ⟨(p++q).toArray⟩) w:=by rw[run_string_add_sum w _ _ (by simp[ByteArray.size];omega),ByteArray.mk_append_mk]
  unfold Oper.wp execOp;simp only[i,j,l];go_simp;exact hK _ _ h
def byteOf(n:Int):UInt8:=UInt8.ofNat (n%256).toNat
theorem pJ(n:Int):((byteOf n).toNat:Int)=n%256:=by unfold byteOf;simp;omega
theorem jS{w:Q0}{b:Nat}{o:Obj}(i:w.grownBy w' (N c))(h:w.heap[b]?=N o)(d:b≠c):w'.heap[b]?=N o:=
 (i.block b (gm h) (fun e=>d (by cases e;rfl))).trans h
theorem gI.name{w:Q0}{l:gw}(h:gI w v l):∃m,m=l/\gI w v m:=⟨l,rfl,h⟩
theorem Cu.rA(cu:Cu)(k:Nat):cu.mG true k=cu:=by unfold Cu.mG;cases cu.f<;>rfl
theorem gZ.grown{w:Q0}(h:gZ w)(b:w.grownBy w' (N c))(hc:2<=c):gZ w':=
 h.iI b.size (b.block _ (gK h.c0) (fun e=>by cases e;omega))
theorem ix.nt{w:Q0}{r:Nat}{l:List (K×Q4)}(h:ix w r l):∀k n:Int,w.heap[r]?≠N (Q1 #[I Y k,I Y n,.nilIface] 186 (0,0)):=fun k n e=>by obtain⟨es,b,h,_⟩:=h;rw[h]at e;cases e
theorem jd.eq{w:Q0}{cu':Cu}(h:jd w base c cu)(e:cu=cu'):jd w base c cu':=e▸h
theorem tK(k:K)(v:Q4)(l:List (K×Q4)):rV k (qH k v l)=N v:=by
 have go:∀(l:List (K×Q4)) (i:Nat),rV k (match ju k l i with|some (j,_)=>l.set (j-i) (k,v)|none=>l++[(k,v)])=N v:=by
  intro l
  induction l with
  | nil=>intro i;simp[ju,rV]
  | cons x l ih=>
   intro i;unfold ju;cases hk:(k==x.1) with
   | true=>simp[rV]
   | false=>
    rw[af (by simp)];have h:=ih (i+1);cases b:ju k l (i+1) with
    | none=>rw[b]at h;unfold rV at h⊢;rw[aV,dL,hk];exact h
    | some y=>obtain⟨j,u⟩:=y;rw[b]at h;have d:=(mO k l (i+1) j u b).1;unfold rV at h⊢;simp only at h⊢;rw[show j-i=(j-(i+1))+1 by omega,aK,dL,hk];exact h
 have h:=go l 0;unfold qH;cases b:ju k l 0 with
 | none=>rw[b]at h;exact h
 | some y=>obtain⟨j,u⟩:=y;rw[b]at h;exact h
theorem FI(k:K)(b:List K):(rV k (b.map fun k=>(k,(I Y 1)))).getD (I Y 0)=I Y (if b.contains k then 1 else 0):=by
 unfold rV
 induction b with
 | nil=>rfl
 | cons x b ih=>
  rw[bG,dL,List.contains_cons];cases hk:(k==x) with
  | true=>rfl
  | false=>simpa using ih
def Cu.pS(C:Cu)(i T:Int)(l:List K)(b j:Nat):Cu×kv:=
 let d:=((C.take b).1.mG (js T (C.take b).2) 7).mG (!(l.contains (T,(C.take b).2))) 8
 if i=1 then((d.take j).1.mG (jb T (d.take j).2) 9,⟨i,T,(C.take b).2,(d.take j).2⟩)
 else(d,⟨i,T,(C.take b).2,[]⟩)
theorem Cu.wU{ok:Bool}(h:(cu.mG ok k).f=J):cu.f=J/\ok=true:=by
 unfold Cu.mG at h;cases hc:cu.f with
 | some x=>rw[hc]at h;rw[hc]at h;cases h
 | none=>
  rw[hc]at h;cases ok with
  | true=>exact⟨rfl,rfl⟩
  | false=>cases h
theorem Cu.NS(h:(cu.take n).1.f=J):cu.f=J:=by
 unfold Cu.take at h;cases hc:cu.f with
 | some x=>rw[hc]at h;rw[hc]at h;cases h
 | none=>rfl
theorem zx{C:Cu}{i T:Int}{b:List K}{d j:Nat}(h:(C.pS i T b d j).1.f=J):b.contains (T,(C.take d).2)=false:=by
 unfold Cu.pS at h;simp only at h;split at h
 .simpa using (Cu.wU (Cu.NS (Cu.wU h).1)).2
 .simpa using (Cu.wU h).2
theorem DR(k:K)(b:List K)(h:b.contains k=false):qH k (I Y 1) (b.map fun k=>(k,(I Y 1)))=(b++[k]).map fun k=>(k,(I Y 1)):=by
 have d:ju k (b.map fun k=>(k,(I Y 1))) 0=J:=Bc k _ 0 fun x i=>by
  obtain⟨y,j,rfl⟩:=aA.1 i;intro e;have:b.contains k=true:=by rw[fm];exact e▸j
  rw[h]at this;cases this
 unfold qH;rw[d];simp
theorem gR.grow{a w:Q0}{i:Nat}(h:gR S a w)(g:w.grownBy w' (N i))(b:S i\/G (Q a)<=i):gR S a w':=
 ⟨g.os.trans h.os,g.tape.trans h.tape,g.output.trans h.output,au h.size g.size,fun k hk d=>(g.block k (ae hk h.size) (fun e=>by cases e;rcases b with b|b;exact d b;omega)).trans (h.block k hk d)⟩
theorem gR.EU{a w:Q0}(h:gR S a w)(g:Q8 (G (Q w)) w w'):gR S a w':=
 ⟨g.os.trans h.os,g.tape.trans h.tape,g.output.trans h.output,au h.size g.size,fun k hk b=>(g.block k (ae hk h.size)).trans (h.block k hk b)⟩
end Go.Proofs.YtkkfmkhbdoeglabGreatDoor
