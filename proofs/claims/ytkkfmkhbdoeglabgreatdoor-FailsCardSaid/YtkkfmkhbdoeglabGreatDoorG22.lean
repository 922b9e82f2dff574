/- Lemmas of the proof. No condition. -/
import Derived.Deep.CutRange
import Derived.Laws.IdiomCopy
import Derived.Shelf.Spec.SlicesInsert
import Derived.Test.YtkkfmkhbdoeglabGreatDoorG21
set_option maxHeartbeats 4000000
set_option maxRecDepth 100000
namespace Go.Proofs.YtkkfmkhbdoeglabGreatDoor
open Go renaming World->Q0,Value->Q4,Calls->Rg,TypeId->Ri
open Go.Ending renaming returned->Ra
open Go.IntKind renaming i64->Y
open Go.Obj renaming cells->Q1
open Go.Value renaming int->I,pointer->Q5,slice->Q6,string->Q7,tuple->Rc,ownBlock->Rl
open Go.World renaming heap->Q,cell?->Rn,alloc->Ro,setCell->Rp
open List renaming length->O,toArray->Rm
open Option renaming none->J,some->N
open _root_.Array renaming size->G
open Go.Proofs.Tryz
open Go.RowKit Go.Shelf
variable{H:gA}{L:Vd}{M:Ve}{P:Option iM}{X base cap g h k n:Nat}{e:Ri}{p:iM}{w w' w1:Q0}{xs:List Q4}
theorem LI{P:Program}(w:Q0)(u B ty elem:Ri)(k n:Nat)(b o d q:Nat)(a:Addr)(l r:Nat)(cs:List Q4)(C:P.underlying u=N (.slice elem))(x:(P.info? elem).map (·.size)=N k)(D:n=Nat.min l d)(hl:O cs=n*k)(s:∀j v,cs[j]?=N v->Rn w (a.add j)=N v)(hc:∀j,j<O cs->(Rn w ⟨b,o+j,J⟩).isSome=true)(E:∀j,j<O cs->w.frozen? ⟨b,o+j,J⟩=false)(h1:∀v∈cs,v.oneCell'=true):
  (Builtin.copy_ #[u,B] ty #[Q6 (N ⟨b,o,J⟩) d q,Q6 (N a) l r]).run P w=.ok (goInt n) (w.setCells b o cs):=by
 have m:=run_loadCells_list (P:=P) w a cs s;have y:=run_storeCells_cells (P:=P) b o cs 0 w (by simpa using hc) (by simpa using E) h1;rw[hl]at m;cases hq:P.info? elem with
 | none=>simp[hq]at x
 | some i=>
  have F:i.size=k:=by simpa [hq]using x
  simp[Builtin.copy_,aO C,Builtin.lenOf,Builtin.firstCells,sizeOf,typeInfo,hq,F,<-D,m,y]
theorem gS.setCells{go:Nat}(h:gS w base k (Q6 (N ⟨g,go,J⟩) n cap) n xs)(p:Nat)(b:List Q4)(B:p+O b<=O xs):
  gS (w.setCells g (go+p) b) base k (Q6 (N ⟨g,go,J⟩) n cap) n (xs.take p++b++xs.drop (p+O b)):=by
 obtain⟨hl,h|⟨g',x,cap',e,s,q,r,hm,hc,o⟩⟩:=h
 .cases h.1
 .cases e;have y:n*k<=cap*k:=cQ _ r;have d:∀j,j<O b->(Rn w ⟨g,go+p+j,J⟩).isSome=true:=fun j C=>by rw[bT];exact(o (p+j) (by omega)).1
  refine⟨by simp only[ab,ax,bu];omega,.inr ⟨g,go,cap,rfl,s,by rw[oW];exact q,r,hm,fun i l=>?_,fun i l=>⟨?_,?_⟩⟩⟩
  .have m:i<O xs:=by simp only[ab,ax,bu]at l;omega
   have D:(xs.take p).length=p:=by rw[ax];omega
   by_cases h1:i<p
   .rw[World.cell?_setCells_out g b (go+p) w ⟨g,go+i,J⟩ (fun _ _=>.inl (by show go+i<go+p;omega)),hc i m];congr 1;rw[dr (by simp only[ab];omega),dr (by omega),List.getElem_take]
   .by_cases u:i<p+O b
    .have:=World.cell?_setCells_in g b (go+p) w d (i-p) (by omega);rw[show go+p+(i-p)=go+i by omega]at this;rw[this];congr 1;rw[dr (by simp only[ab];omega),eu (by omega)];congr 1;omega
    .rw[World.cell?_setCells_out g b (go+p) w ⟨g,go+i,J⟩ (fun _ _=>.inr (by show go+p+O b<=go+i;omega)),hc i m];congr 1;rw[eu (by simp only[ab];omega),List.getElem_drop];congr 1;simp only[ab];omega
  .by_cases u:p<=i/\i<p+O b
   .have:=World.cell?_setCells_in g b (go+p) w d (i-p) (by omega);rw[show go+p+(i-p)=go+i by omega]at this;rw[this];rfl
   .rw[World.cell?_setCells_out g b (go+p) w ⟨g,go+i,J⟩ (fun _ _=>by show go+i<go+p\/go+p+O b<=go+i;omega)];exact(o i l).1
  .rw[World.frozen?_setCells];exact(o i l).2
theorem tf{b:Nat}: ∀(i:List Q4) (o:Nat) (w:Q0),(∃C d,w.heap[b]?=N (Q1 C e d))->∃C d,(w.setCells b o i).heap[b]?=N (Q1 C e d)
 | [],_,_,h=>h
 | v::i,o,w,h=>by rw[World.setCells];refine tf i _ _ ?_;obtain⟨C,d,j⟩:=h;refine⟨C.setIfInBounds o v,d,?_⟩;unfold World.setCell;simp;obtain⟨h1,l⟩:=cx.1 j;simp[fj,j]
theorem gQ.setCells{go:Nat}(h:gQ w (Q6 (N ⟨g,go,J⟩) n cap) e)(p:Nat)(d:List Q4):gQ (w.setCells g p d) (Q6 (N ⟨g,go,J⟩) n cap) e:=fun b i=>by cases i;exact tf d p w (h g rfl)
theorem OQ{S:Vd}(_hS:gM S)(k:K)(v:gw)(i:Nat)(b:∀x∈S.take i,oT x.1 k=true)(d:∀x∈S.drop i,oT k x.1=true):nf k v S=S.take i++(k,v)::S.drop i:=by
 unfold nf;have l:S.filter (fun x=>oT x.1 k)=S.take i:=by
  conv=>lhs;rw[<-cw i S]
  rw[dB,fH.2 b,fa.2 fun x j=>?_,cX];rw[mY (d x j)];decide
 have m:S.filter (fun x=>oT k x.1)=S.drop i:=by
  conv=>lhs;rw[<-cw i S]
  rw[dB,fH.2 d,fa.2 fun x j=>?_,aQ];rw[mY (b x j)];decide
 rw[l,m]
theorem wpList_append_own{iS:Array Oper}{rest:List Oper}{o:Oper}{a:Act}{d:Exit->Act->Q0->Prop}(D:o.guard=J)(s x:Operand)(t e:Ri)(k b:Nat)(z:Q4)(E:prog.underlying t=N (.slice e))(q:(prog.info? e).map (fun i=>(i.zero,i.size,i.bytes))=N (N z,k,b))(F:z.cells.size=k)(hk:0<k)(S:o.op=.call {callee:=.builtin .append,args:=#[s,x],argTypes:=#[t,t]})(base:Nat)(v:Q4)(n:Nat)(xs:List Q4)(U:a.eval s=v)(B:gS w base k v n xs)(V:gQ w v e)(m:Nat)(j:List Q4)(W:gE w (a.eval x) k m j)(h1:∀u∈j,u.oneCell'=true)(C:n+m<=9223372036854775807)(l:(n+m)*b<=140737488355328)(r:base<=G (Q w))(h:∀v' w',gS w' base k v' (n+m) (xs++j)->w.grownBy w' (Rl v)->gQ w' v' e->(∀b,Rl v'=N b->Rl v=N b\/b=G (Q w))->wpList prog iS d rest (a.put o.dst v') w'):wpList prog iS d (o::rest) a w:=by obtain⟨i0,X,M,y,R⟩:=dE q;exact eN D fun K hK=>lL s x _ _ S base k e i0 z E X M y (by rw[y];exact F) (by omega) v n xs U B V m j (gE.src E W h1) C (by rw[R];exact l) r fun v' w' h1 Z h3 h4=>hK _ _ (h v' w' h1 Z h3 h4)
theorem OL{go:Nat}{b d i:Q4}(h:gS w base 3 (Q6 (N ⟨g,go,J⟩) (n+1) cap) (n+1) ((gV L).take (k*3)++[b,d,i]++(gV L).drop (k*3)))(y:O L=n)(hk:k<=n):
  Rn w ⟨g,go+k*3,J⟩=N b/\Rn w ⟨g,go+k*3+1,J⟩=N d/\Rn w ⟨g,go+k*3+2,J⟩=N i/\w.frozen? ⟨g,go+k*3,J⟩=false/\w.frozen? ⟨g,go+k*3+1,J⟩=false/\w.frozen? ⟨g,go+k*3+2,J⟩=false:=by
 have hl:=nD L;have s:((gV L).take (k*3)).length=k*3:=by rw[ax];omega
 obtain⟨-,o|⟨g',u,cap',e,-,-,l,-,hc,q⟩⟩:=h
 .cases o.1
 cases e;have r:(n+1)*3<=cap*3:=cQ _ l;have key:∀j (m:j<[b,d,i].length),Rn w ⟨g,go+k*3+j,J⟩=N [b,d,i][j]/\w.frozen? ⟨g,go+k*3+j,J⟩=false:=fun j m=>by have x:j<3:=m;rw[bT];refine⟨?_,(q (k*3+j) (by omega)).2⟩;rw[hc (k*3+j) (by simp only[ab,bu,ao,aI];omega)];congr 1;rw[dr (by simp only[ab,ao,aI];omega),eu (by omega)];congr 1;omega
 exact⟨(key 0 (by simp)).1,(key 1 (by simp)).1,(key 2 (by simp)).1,(key 0 (by simp)).2,(key 1 (by simp)).2,(key 2 (by simp)).2⟩
theorem KX(w:Q0):gE (Ro w (Q1 #[I Y 0,Q7 ⟨#[]⟩,Q7 ⟨#[]⟩] 101)) (Q6 (N ⟨G (Q w),0,J⟩) 1 1) 3 1 [I Y 0,Q7 ⟨#[]⟩,Q7 ⟨#[]⟩]:=by
 refine⟨rfl,_,1,rfl,aq _,fun i b=>⟨_,0,rfl,?_⟩⟩;rw[pK];obtain rfl|rfl|rfl:i=0\/i=1\/i=2:=by simp at b;omega
 .rfl
 .rfl
 .rfl
theorem wz(gb go n cap i:Nat)(a:Int)(ha:a=(i:Int))(j:i<=n)(hc:¬cap=i)(w:Q0):
  (Instr.slice 23 (Q6 (N ⟨gb,go,J⟩) n cap) (N (I Y a)) J J).run prog w=.ok (Q6 (N ⟨gb,go+i*3,J⟩) (n-i) (cap-i)) w:=by
 subst ha;have b:prog.underlying 23=N (.slice (prog.elem 23)):=by kernel_rfl
 have d:(sizeOf (prog.elem 23)).run prog w=.ok 3 w:=by kernel_rfl
 rw[run_slice_l (P:=prog) (w:=w) 23 (N ⟨gb,go,J⟩) n cap b Y (i:Int) (by omega) (by omega),d];simp[Result.andThen,sliced,Addr.add,hc]
theorem xX(gb go n cap i:Nat)(a:Int)(ha:a=(i:Int))(j:i<=n)(hc:cap=i)(w:Q0):
  (Instr.slice 23 (Q6 (N ⟨gb,go,J⟩) n cap) (N (I Y a)) J J).run prog w=.ok (Q6 (N ⟨gb,go,J⟩) (n-i) (cap-i)) w:=by
 subst ha;have b:prog.underlying 23=N (.slice (prog.elem 23)):=by kernel_rfl
 have d:(sizeOf (prog.elem 23)).run prog w=.ok 3 w:=by kernel_rfl
 rw[run_slice_l (P:=prog) (w:=w) 23 (N ⟨gb,go,J⟩) n cap b Y (i:Int) (by omega) (by omega),d];simp[Result.andThen,sliced,hc]
theorem LP{go m:Nat}{z:List Q4}(h:gS w base 3 (Q6 (N ⟨g,go,J⟩) (n+1) cap) (n+1) (xs++z))(V:O xs=n*3)(W:O z=3)(hk:k<=n)(b:cap=k+1\/m=go+(k+1)*3)(h1:∀u∈xs,u.oneCell'=true)(ty:Ri):
  ∃w' q,(Builtin.copy_ #[23,23] ty #[Q6 (N ⟨g,m,J⟩) (n-k) (cap-(k+1)),Q6 (N ⟨g,go+k*3,J⟩) (n+1-k) (cap-k)]).run prog w=.ok (goInt (n-k:Nat)) w'/\
   gS w' base 3 (Q6 (N ⟨g,go,J⟩) (n+1) cap) (n+1) (xs.take (k*3)++q++xs.drop (k*3))/\O q=3/\w.grownBy w' (N g)/\G (Q w')=G (Q w)/\∀e,gQ w (Q6 (N ⟨g,go,J⟩) (n+1) cap) e->gQ w' (Q6 (N ⟨g,go,J⟩) (n+1) cap) e:=by
 have B:=h;obtain⟨hl,C|⟨g',R,cap',e,X,S,r,hm,hc,s⟩⟩:=B
 .cases C.1
 cases e;have d:=gS.setCells h ((k+1)*3) (xs.drop (k*3)) (by rw[ab,bu];omega);have x:(xs.drop (k*3)).length=(n-k)*3:=by rw[bu];omega
 have l:=LI (P:=prog) w 23 23 ty 101 3 (n-k) g m (n-k) (cap-(k+1)) ⟨g,go+k*3,J⟩ (n+1-k) (cap-k) (xs.drop (k*3)) underlying23 (by kernel_rfl) (by
   show n-k=min (n+1-k) (n-k);omega) x (fun j v o=>by
   rw[fC];obtain⟨U,y⟩:=aH.1 o;have:=hc (k*3+j) (by rw[ab];omega);rw[dr (by omega)]at this;show Rn w ⟨g,go+k*3+j,J⟩=N v;rw[bT,this,<-y,List.getElem_drop]) (fun j o=>by
   rcases b with b|b
   .omega
   .have:=(s ((k+1)*3+j) (by have:(k+1)*3+j<(n+1)*3:=by omega
                             have:(n+1)*3<=cap*3:=cQ _ r;omega)).1
    rw[b,bT];exact this) (fun j o=>by
   rcases b with b|b
   .omega
   .have:=(s ((k+1)*3+j) (by have:(k+1)*3+j<(n+1)*3:=by omega
                             have:(n+1)*3<=cap*3:=cQ _ r;omega)).2
    rw[b,bT];exact this) (fun v D=>h1 v (List.drop_subset _ _ D))
 have E:w.setCells g m (xs.drop (k*3))=w.setCells g (go+(k+1)*3) (xs.drop (k*3)):=by
  rcases b with b|b
  .have:xs.drop (k*3)=[]:=ch (by omega);rw[this];rfl
  .rw[b]
 rw[E]at l;refine⟨_,((xs++z).drop (k*3)).take 3,l,?_,by rw[ax,bu,ab];omega,qd _ _ _ _,oW _ _ _ _,fun e he=>he.setCells _ _⟩;have F:(xs++z).drop ((k+1)*3+(xs.drop (k*3)).length)=[]:=fZ (by rw[ab];omega);rw[F,cX]at d;have M:(xs++z).take ((k+1)*3)=xs.take (k*3)++((xs++z).drop (k*3)).take 3:=by rw[show(k+1)*3=k*3+3 by omega,List.take_add];rw[eX (i:=k*3) (by omega)]
 rw[M]at d;exact d
theorem vZ(L:Vd)(k:Nat)(hk:k<=O L):gV (L.take k)=(gV L).take (k*3)/\gV (L.drop k)=(gV L).drop (k*3):=by
 have e:gV L=gV (L.take k)++gV (L.drop k):=by rw[<-oY,cw]
 have hl:(gV (L.take k)).length=k*3:=by rw[nD,ax,Nat.min_eq_left hk]
 rw[e];exact⟨(List.take_left' hl).symm,(List.drop_left' hl).symm⟩
theorem OS{go:Nat}{x:E}{b:List Q4}(h:gS w base 3 (Q6 (N ⟨g,go,J⟩) (n+1) cap) (n+1) ((gV L).take (k*3)++b++(gV L).drop (k*3)))(q:O L=n)(hk:k<=n)(r:O b=3):
  gS (w.setCells g (go+k*3) [I Y x.1.1,Q7 ⟨Rm x.1.2⟩,Q7 ⟨Rm x.2⟩]) base 3 (Q6 (N ⟨g,go,J⟩) (n+1) cap) (L.take k++x::L.drop k).length (gV (L.take k++x::L.drop k)):=by
 have hl:=nD L;have i:((gV L).take (k*3)).length=k*3:=by rw[ax];omega
 have d:=h.setCells (k*3) [I Y x.1.1,Q7 ⟨Rm x.1.2⟩,Q7 ⟨Rm x.2⟩] (by simp only[ab,bu,ao,aI];omega);have e0:(L.take k++x::L.drop k).length=n+1:=by simp;omega
 have l:gV (L.take k++x::L.drop k)=(gV L).take (k*3)++[I Y x.1.1,Q7 ⟨Rm x.1.2⟩,Q7 ⟨Rm x.2⟩]++(gV L).drop (k*3):=by rw[oY,(vZ L k (by omega)).1,<-(vZ L k (by omega)).2,bJ];rfl
 have m:((gV L).take (k*3)++b++(gV L).drop (k*3)).take (k*3)=(gV L).take (k*3):=by rw[bJ];exact List.take_left' i
 have o:((gV L).take (k*3)++b++(gV L).drop (k*3)).drop (k*3+3)=(gV L).drop (k*3):=List.drop_left' (by rw[ab];omega);rw[e0,l];rw[m]at d;have j:((gV L).take (k*3)++b++(gV L).drop (k*3)).drop (k*3+[I Y x.1.1,Q7 ⟨Rm x.1.2⟩,Q7 ⟨Rm x.2⟩].length)=(gV L).drop (k*3):=o;rw[j]at d;exact d
theorem yA(w:Q0)(a b:Nat):(w.drewN a).drewN b=w.drewN (a+b):=by unfold World.drewN;simp[bT]
theorem EK(l:Vd):(jv l).length<=O l:=by
 have key:∀(l:Vd) (S:Vd),gM S->(l.foldl (fun S x=>nf x.1 x.2 S) S).length<=O S+O l:=by
  intro l
  induction l with
  | nil=>exact fun S h=>aq _
  | cons x l ih=>intro S h;have h1:=ih _ (kG x.1 x.2 h);have b:=zF x.1 x.2 S h;simp only[eJ,ao];omega
 have:=key l [] gM.nil;simp only[aI,bY]at this;exact this
theorem OC:(prog.info? 101).map (fun i=>(i.zero,i.size,i.bytes))=N (N (.agg #[I Y 0,Q7 ⟨#[]⟩,Q7 ⟨#[]⟩]),3,40):=by kernel_rfl
theorem Lj(h:Nat)(x:HV)(S:Vd)(w:Q0)(hh:iQ w h x)(ht:iE w x.r S)(hS:O S<=1000000):
  Rg prog 64 #[Q5 (N ⟨h,0,J⟩)] w fun e w'=>∃v,e=Ra v/\iD w' v S/\Below (G (Q w)) w w':=by
 obtain⟨r,hr⟩:∃r,r=x.r:=⟨_,rfl⟩;have av:=gm hh;unfold iQ HV.cells at hh;have c8:=gr 10 hh;simp only[bU,aX,aY]at c8;rw[<-hr]at c8 ht;have fp:=ht.lt;have da:=gj ht.1;obtain⟨bM,L,co,hp⟩:=ht;have HP:=gj hp;have HN:=gj bM.nodup;clear bM hp hh hr;go_enter func64,ntmps64;go_wp2_with (first|(refine nE rfl _ rfl underlying123 rfl co ?_;intro w1 cq dk fr)|fail)
 try go_frame
 go_loopw [3] (fun v wr=>∃l:Vd,iJ wr r (G (Q w)) L (l.map zS)/\gS wr (G (Q w)+1) 3 v (jv l).length (gV (jv l))/\gQ wr v 101/\Below (G (Q w)) w wr) (fun _ wr=>wr.rangeLeft r (G (Q w)))
 case atStart=>exact⟨[],cq,gS.nil _ _ _,gQ.nil _ _,dk⟩
 case round=>
  obtain⟨l,V,B,bN,a5⟩:=hrel;go_wp2_with (first|(refine oD rfl _ rfl rfl V ?_ ?_)|fail)
  .intro dl;have dn:=gj (vL (ot V.sub.2.2) HN.o (dl.trans HP.o));obtain⟨va,vc,rfl⟩:=B.shape;go_wp2;refine ai (v:=Q6 va (jv l).length vc) (by simp[results]) rfl ⟨_,rfl,?_,a5⟩;rw[DC da.o dn.o]at B⊢;exact B.IA
  .intro d kb v w2 hx bO bi bk bP dp fx;obtain⟨⟨k',s⟩,ds,e⟩:=aA.1 (HP.o.mem_iff.1 hx);cases e;have bl:iJ w2 r (G (Q w)) L ((l++[((d,kb),s)]).map zS):=by rw[bj];exact bi
   have bn:=gj bl;unfold nW at dp;obtain⟨va,vc,rfl⟩:=B.shape;have a6:Below (G (Q w)) w w2:=a5.grown bk a5.size (fun j e=>by cases e;exact aq _);have ag:gS w2 (G (Q w)+1) 3 (Q6 va (jv l).length vc) (jv l).length (gV (jv l)):=B.grown bk fun b hb e=>by cases e;have:=B.ie _ hb;omega
   have br:=bN.kept bk fun b hb e=>by cases e;have:=B.ie _ hb;omega
   have cr:(jv l).length<=1000000:=by have h1:=EK l;have h2:O l<=O S:=wQ (ot V.sub.2.2) (fun y hy=>yK (HP.o.mem_iff.1 (V.sub.1 _ (aA.2 ⟨y,hy,rfl⟩))));omega
   have bR:=V.left;have dv:=gj bO;have bs:=V.sub.2.2;rw[vH]at bs;have dT:=gj bs;have aE:Below (G (Q w2)) w2 (((Ro w2 (Q1 #[I Y d,Q7 ⟨Rm kb⟩] 103)).alloc (Q1 #[Q7 ⟨Rm s⟩] 179)).alloc (Q1 #[I Y d,Q7 ⟨Rm kb⟩,Q7 ⟨Rm s⟩] 101)):=(((gJ w2).alloc gH _).alloc (by simp) _).alloc (by simp;omega) _;have ak:=gB ((Ro w2 (Q1 #[I Y d,Q7 ⟨Rm kb⟩] 103)).alloc (Q1 #[Q7 ⟨Rm s⟩] 179)) (Q1 #[I Y d,Q7 ⟨Rm kb⟩,Q7 ⟨Rm s⟩] 101);rw[aj,aj]at ak;have a7:=gj ak;have bS:=gj (ag.below aE);have bX:=gj ag.iA;have d8:=gj (br.frame fun b _ av=>aE.block b av);have b0:=gj (a6.trans (aE.mono a6.size));have bt:=gj aE;have d9:=gj bR;have fz:=gj bP;clear bi bl hx ds V B ag bN br a6 a5 aE ak bP bR bO bs;go_upto_block 2 with fail;generalize ((Ro w2 (Q1 #[I Y d,Q7 ⟨Rm kb⟩] 103)).alloc (Q1 #[Q7 ⟨Rm s⟩] 179)).alloc (Q1 #[I Y d,Q7 ⟨Rm kb⟩,Q7 ⟨Rm s⟩] 101)=w5 at *
   have e0:Rn w5 ⟨G (Q w2)+1+1,0,J⟩=N (I Y d):=gr 0 a7.o;have gp:Rn w5 ⟨G (Q w2)+1+1,1,J⟩=N (Q7 ⟨Rm kb⟩):=gr 1 a7.o;have gq:Rn w5 ⟨G (Q w2)+1+1,2,J⟩=N (Q7 ⟨Rm s⟩):=gr 2 a7.o;go_cut [7]from 13 to 79 (fun i wx=>∃k:Nat,k<=(jv l).length/\i=I Y (k:Int)/\(∀x∈(jv l).drop k,oT (d,kb) x.1=true)/\(∀x∈(jv l).take k,oT x.1 (d,kb)=true)/\∃q,wx=w5.drewN q)
   case first=>
    go_wp2_with fail;go_loopw [7] (fun i wq=>∃k:Nat,k<=(jv l).length/\i=I Y (k:Int)/\(∀x∈(jv l).drop k,oT (d,kb) x.1=true)/\∃q,wq=w5.drewN q) (fun i _=>(intOf i).toNat)
    case atStart=>exact⟨_,aq _,rfl,by simp,0,rfl⟩
    case round=>
     obtain⟨k,hk,rfl,D,q,rfl⟩:=hrel;by_cases fB:0<k
     .obtain⟨m,rfl⟩:∃m,k=m+1:=⟨k-1,by omega⟩;have d0:decide ((0:Int)<((m+1:Nat):Int))=true:=by simp
      have d1:(((m+1:Nat):Int))-1=(m:Int):=by omega
      have d6:IntKind.i64.wrap (m:Int)=(m:Int):=IntWalk.i64_in _ (by omega);have d7:(m:Int)<(jv l).length:=by omega
      have ho:=bS.o.IA;obtain⟨ra,rc,re,-,b1⟩:=ho.gU;cases re;obtain⟨g,off,rfl,c0,c1,c2⟩:=b1 m (by omega);generalize a8:(jv l)[m]=x0 at c0 c1 c2;obtain⟨⟨C,E⟩,xv⟩:=x0;clear b1 ho;have b2:(jv l).drop m=((C,E),xv)::(jv l).drop (m+1):=by rw[cD (by omega),a8]
      have b3:(jv l).take (m+1)=(jv l).take m++[((C,E),xv)]:=by rw[aC (by omega),a8]
      have a0:gM ((jv l).take (m+1)):=(tX l).take _;have bv:oT (C,E) (d,kb)=true->∀x∈(jv l).take (m+1),oT x.1 (d,kb)=true:=fun h0 x hx=>by
       rw[b3]at hx a0;rcases bQ.1 hx with hx|hx
       .exact qf ((dR.1 a0).2.2 x hx _ (ay.2 rfl)) h0
       .rw[ay.1 hx];exact h0
      have bw:=gj bv;have b4:=gj b2;have eg:gy ((C,E)≠(d,kb)):=gj fun e=>by
       have h1:((C,E),xv)∈jv l:=by rw[<-a8];exact bq _
       rw[Dz dT.o]at h1;exact dv.o _ _ _ h1 e
      clear bv b3 a0 b2 a8;by_cases ht:d<C
      .have d2:decide (d<C)=true:=bh ht;go_wp2;go_quiet (fail);go_wp2;refine⟨⟨m,by omega,rfl,?_,_,rfl⟩,by simp[intOf]⟩;rw[b4.o];exact List.forall_mem_cons.2 ⟨by rw[rj];exact .inl ht,D⟩
      .have d2:decide (d<C)=false:=aF ht;by_cases bx:d=C
       .obtain rfl:=bx;by_cases hs:kb<E
        .have d4:Op.bytesLess E kb=false:=by rw[bytesLess_eq];exact aF (List.not_lt.2 (List.le_of_lt hs))
         have d5:(E==kb)=false:=ar.2 fun e=>fy kb (by rw[e]at hs;exact hs);have ej:=gj hs;clear hs;go_wp2;go_quiet (fail);go_wp2;refine⟨⟨m,by omega,rfl,?_,_,rfl⟩,by simp[intOf]⟩;rw[b4.o];exact List.forall_mem_cons.2 ⟨by rw[rj];exact .inr ⟨rfl,ej.o⟩,D⟩
        .have M:gy (oT (d,E) (d,kb)=true):=gj (by
          rcases xQ (d,E) (d,kb)with h|h|h
          .exact h
          .exact absurd h eg.o
          .rw[rj]at h;rcases h with h|h
           .exact absurd h (by show ¬d<d;omega)
           .exact absurd h.2 hs)
         have d4:Op.bytesLess E kb=true:=by
          rw[bytesLess_eq];refine bh ?_;have h:=M.o;rw[rj]at h;rcases h with h|h
          .exact absurd h (by show ¬d<d;omega)
          .exact h.2
         clear hs;go_wp2;go_quiet (fail);go_wp2;go_meet;exact⟨_,hk,rfl,D,bw.o M.o,_,by first|rfl|exact yA _ _ _⟩
       .have el:¬C=d:=dW bx;have d3:decide (C=d)=false:=aF el;have M:gy (oT (C,E) (d,kb)=true):=gj (by rw[rj];exact .inl (by show C<d;omega));clear bx;go_wp2;go_quiet (fail);go_wp2;go_meet;exact⟨_,hk,rfl,D,bw.o M.o,_,by first|rfl|exact yA _ _ _⟩
     .obtain rfl:k=0:=by omega
      go_wp2;go_quiet (fail);go_wp2;go_meet;exact⟨0,hk,rfl,D,by simp,_,by first|rfl|exact yA _ _ _⟩
   case rest=>
    obtain⟨k,hk,rfl,D,b5,q,rfl⟩:=hcut;have bz:gy (jv (l++[((d,kb),s)])=(jv l).take k++((d,kb),s)::(jv l).drop k):=gj (by rw[Bp];exact OQ (tX l) _ _ k b5 D);have cv:=bz;have X:=gj ((Below.refl (G (Q w5)) w5).drewN q);have fR:(k:Int)<=(jv l).length:=by omega
    have b6:=gj (bS.o.below X.o);have em:=gj (d8.o.frame (w':=w5.drewN q) fun b _ av=>X.o.block b av);have bA:=gj (b0.o.trans (X.o.mono b0.o.size));have b8:gy ((w5.drewN q).heap[G (Q w2)+1+1]?=N (Q1 #[I Y d,Q7 ⟨Rm kb⟩,Q7 ⟨Rm s⟩] 101 (0,0))):=gj a7.o;clear D b5 bz e0 gp gq;generalize w5.drewN q=w6 at *
    have b9:=fun o=>gj (Below.al (Below.rf w6) o);have cB:=gj (KX w6);have e8:=gj cr;go_wp2_with (first|(refine wpList_append_own rfl (.tmp 64) (.tmp 66) 23 101 3 40 _ underlying23 OC rfl (by omega) rfl (G (Q w)+1) (Q6 va (jv l).length vc) (jv l).length (gV (jv l)) rfl (by exact b6.o.below (b9 _).out) (by exact em.o.frame fun b _ hb=>(b9 _).out.block b hb) 1 [I Y 0,Q7 ⟨#[]⟩,Q7 ⟨#[]⟩] (by exact cB.o) (by intro u hu;simp at hu;rcases hu with rfl|rfl<;>rfl) (by omega) (by omega) (by have:=bA.o.size;rw[aj];omega) ?_;intro v7 w7 R ca a2 cb)|fail);obtain⟨g7,o7,F,rfl,f3⟩:∃g7 o7 F,v7=Q6 (N ⟨g7,o7,J⟩) ((jv l).length+1) F/\(jv l).length+1<=F:=by
     obtain⟨-,h0|⟨g',er,cap',e,hg,av,hn,-⟩⟩:=R
     .omega
     .exact⟨g',er,cap',e,hn⟩
    have c3:=wz g7 o7 ((jv l).length+1) F k (k:Int) rfl (by omega) (by omega);obtain⟨o1,bB,c5⟩:∃o1,(F=k+1\/o1=o7+(k+1)*3)/\∀w:Q0,(Instr.slice 23 (Q6 (N ⟨g7,o7,J⟩) ((jv l).length+1) F) (N (I Y ((k:Int)+1))) J J).run prog w=.ok (Q6 (N ⟨g7,o1,J⟩) ((jv l).length-k) (F-(k+1))) w:=by
     by_cases hc:F=k+1
     .exact⟨o7,.inl hc,fun w=>by rw[xX g7 o7 _ F (k+1) _ (by omega) (by omega) hc,Nat.add_sub_add_right]⟩
     .exact⟨o7+(k+1)*3,.inr rfl,fun w=>by rw[wz g7 o7 _ F (k+1) _ (by omega) (by omega) hc,Nat.add_sub_add_right]⟩
    have bD:k<=(jv l).length:=by omega
    obtain⟨w8,ys,cc,a9,cd,ce,cg,bE⟩:=LP (w:=w7.drew) (n:=(jv l).length) (xs:=gV (jv l)) (z:=[I Y 0,Q7 ⟨#[]⟩,Q7 ⟨#[]⟩]) R (nD _) rfl bD bB (tT _) 3;have f4:IntKind.i64.wrap ((k:Int)+1)=(k:Int)+1:=IntWalk.i64_in _ (by omega);have eS:=gj R;have Z:=gj ca;have f5:=gj a2;have eT:=gj cb;have ci:=gj a9;have ba:=gj ce;have f6:=gj cg;have eV:=gj (bE _ a2);have f7:=gj bB;have e1:=gj cd;have e2:=gj cc;clear R ca a2 cb a9 ce cg bE bB cd cc;go_still_tail 7,(by kernel_rfl);change wpList _ _ _ _ _ w7.drew;refine wpList_copy_runI w7.drew rfl (.tmp 71) (.tmp 74) 23 23 rfl _ _ rfl rfl e2.o ?_;obtain⟨y0,y1,y2,rfl⟩:∃a b c,ys=[a,b,c]:=by
     have:=e1.o
     match ys,this with
     | [a,b,c],_=>exact⟨a,b,c,rfl⟩
    have c6:G (Q w)+1<=g7:=eS.o.ie g7 rfl;have a3:∀j,(Q6 va (jv l).length vc).ownBlock=N j->G (Q w)+1<=j:=fun j e=>b6.o.ie j e;have cl:∀j,j<=G (Q w)->j<G (Q w2)->w8.heap[j]?=w2.heap[j]?:=fun j hj bH=>by
     have s5:=bt.o.size;have s6:=X.o.size;have t1:w8.heap[j]?=w7.heap[j]?:=ba.o.block j (by have:=Z.o.size;rw[aj]at this;show j<G (Q w7);omega) fun e=>by cases e;omega
     have t2:=Z.o.block j (by rw[aj];omega) fun e=>by have:=a3 j e.symm;omega
     rw[t1,t2,heap_alloc_old _ _ (by omega),X.o.block j (by omega),bt.o.block j bH]
    have U:gy (w8.heap[G (Q w2)+1+1]?=N (Q1 #[I Y d,Q7 ⟨Rm kb⟩,Q7 ⟨Rm s⟩] 101 (0,0))):=gj (by
     have s6:=gm b8.o
     have t1:=ba.o.block (G (Q w2)+1+1) (by have:=Z.o.size;rw[aj]at this;show _<G (Q w7);omega) fun e=>by
      cases e;rcases eT.o (G (Q w2)+1+1) rfl with h|h
      .have h':G (Q w2)+1+1<G (Q w2):=bX.o _ h;omega
      .rw[aj]at h;omega
     have t2:=Z.o.block (G (Q w2)+1+1) (by rw[aj];omega) fun e=>by have:=bX.o _ e.symm;omega
     rw[t1];show w7.heap[_]?=_;rw[t2];exact gP _ _ b8.o)
    have bI:Below (G (Q w)) w w8:=by
     have h1:=(bA.o.alloc (o:=(Q1 #[I Y 0,Q7 ⟨#[]⟩,Q7 ⟨#[]⟩] 101)) bA.o.size);have h2:=h1.grown Z.o h1.size fun j e=>by have:=a3 j e;omega
     exact(Below.drew h2).grown ba.o h2.size fun j e=>by cases e;omega
    have a4:gy (∀W,W=w8.setCells g7 (o7+k*3) [I Y d,Q7 ⟨Rm kb⟩,Q7 ⟨Rm s⟩]->(∃l':Vd,iJ W r (G (Q w)) L (l'.map zS)/\gS W (G (Q w)+1) 3 (Q6 (N ⟨g7,o7,J⟩) ((jv l).length+1) F) (jv l').length (gV (jv l'))/\gQ W (Q6 (N ⟨g7,o7,J⟩) ((jv l).length+1) F) 101/\Below (G (Q w)) w W)/\W.rangeLeft r (G (Q w))<wr.rangeLeft r (G (Q w))):=gj (by
     rintro W rfl;have cm:=qd w8 g7 (o7+k*3) [I Y d,Q7 ⟨Rm kb⟩,Q7 ⟨Rm s⟩];have cn:∀j,j<=G (Q w)->j<G (Q w2)->(w8.setCells g7 (o7+k*3) [I Y d,Q7 ⟨Rm kb⟩,Q7 ⟨Rm s⟩]).heap[j]?=w2.heap[j]?:=fun j hj bH=>by have s5:=bt.o.size;have s6:=X.o.size;have s7:=Z.o.size;rw[aj]at s7;have s8:=ba.o.size;rw[cm.block j (by have:w7.drew.heap.size=G (Q w7):=rfl;omega) fun e=>by cases e;omega];exact cl j hj bH
     have hR:=bn.o.frame (cn _ (by omega) bn.o.lt.1) (cn _ gH bn.o.lt.2);refine⟨⟨l++[((d,kb),s)],hR,?_,eV.o.setCells _ _,bI.grown cm bI.size fun j e=>by cases e;omega⟩,?_⟩
     .rw[cv.out];exact OS (x:=((d,kb),s)) ci.o rfl bD rfl
     .have e6:=hR.left;have e7:=d9.o;simp only[aB,ab,ao,aI]at e6 e7;omega)
    have e0:Rn w8 ⟨G (Q w2)+1+1,0,J⟩=N (I Y d):=gr 0 U.o;have gp:Rn w8 ⟨G (Q w2)+1+1,1,J⟩=N (Q7 ⟨Rm kb⟩):=gr 1 U.o;have gq:Rn w8 ⟨G (Q w2)+1+1,2,J⟩=N (Q7 ⟨Rm s⟩):=gr 2 U.o;obtain⟨f0,f1,f2,z0,z1,z2⟩:=OL ci.o rfl bD;have f8:IntKind.i64.wrap (k:Int)=(k:Int):=IntWalk.i64_in _ (by omega);have a6:(k:Int)<(jv l).length+1:=by omega
    clear cl bI U c6 a3 c5 c3;go_wp2
    first
     | exact a4.o _ rfl
     | (go_roundw
        case rel=>exact(a4.o _ rfl).1
        case measure=>exact(a4.o _ rfl).2)
def lM(w:Q0)(M:Ve)(X:Nat)(H:gA)(P:Option iM):Prop:=∃h b,w.heap[X]?=N (Q1 #[Q5 (N ⟨h,0,J⟩),b] 136 (0,0))/\M X/\match P with
 | none=>b=Q5 J/\∃F,iU w F h H/\∀k,F k->M k/\k≠X
 | some p=>∃a d,b=Q5 (N ⟨a,0,none⟩)/\Kz w d a h H p/\∀k,d k->M k/\k≠X
def mD(w:Q0)(M:Ve)(X:Nat)(H:gA)(P:Option iM)(w':Q0):Prop:=∃b,lM w' b X H P/\(∀k,b k->M k\/G (Q w)<=k)/\gR M w w'
theorem lM.frame{D:Ve}(q:lM w M X H P)(d:gR D w w')(i:∀k,M k->¬D k):lM w' M X H P:=by
 obtain⟨h,r,h1,m,o⟩:=q;refine⟨h,r,d.at (i X m) h1,m,?_⟩;cases P with
 | none=>obtain⟨j,F,l,b⟩:=o;exact⟨j,F,l.ext d fun k hk=>i k (b k hk).1,b⟩
 | some p=>obtain⟨a,s,j,l,b⟩:=o;exact⟨a,s,j,l.frame d fun k hk=>i k (b k hk).1,b⟩
theorem lM.below(b:lM w M X H P)(d:Below (G (Q w)) w w'):lM w' M X H P:=b.frame (D:=fun _=>False) (gR.gO d) fun _ _=>id
theorem mD.below(d:mD w M X H P w1)(b:Below (G (Q w1)) w1 w'):mD w M X H P w':=by obtain⟨i,h1,j,l⟩:=d;exact⟨i,h1.below b,j,l.trans (gR.gO b)⟩
theorem lM.go(b:lM w M X H P):mD w M X H P w:=⟨M,b,fun _=>.inl,gR.refl _ _⟩
theorem lM.Lp(d:lM w M X H (N p)):∃h a b,w.heap[X]?=N (Q1 #[Q5 (N ⟨h,0,J⟩),Q5 (N ⟨a,0,J⟩)] 136 (0,0))/\M X/\Kz w b a h H p/\∀k,b k->M k/\k≠X:=by obtain⟨h,m,h1,i,a,b,rfl,j,l⟩:=d;exact⟨h,a,b,h1,i,j,l⟩
theorem nS.Pd{i:Ve}{a:Nat}(b:w.heap[X]?=N (Q1 #[Q5 (N ⟨h,0,J⟩),Q5 (N ⟨a,0,J⟩)] 136 (0,0)))(j:M X)(d:∀k,i k->M k/\k≠X)(l:nS w i a h H p w'):mD w M X H (N p) w':=by
 obtain⟨m,g1,g2,g3⟩:=l;have o:=gm b;refine⟨fun k=>M k\/G (Q w)<=k,⟨h,_,g3.at (fun e=>(d X e).2 rfl) b,.inl j,a,m,rfl,g1,fun k hk=>?_⟩,fun k hk=>hk,g3.mono fun k hk=>(d k hk).1⟩;rcases g2 k hk with e|e
 .exact⟨.inl (d k e).1,(d k e).2⟩
 .exact⟨.inr e,by omega⟩
theorem lM.kQ(q:lM w M X H P):∃h i F,w.heap[X]?=N (Q1 #[Q5 (N ⟨h,0,J⟩),i] 136 (0,0))/\M X/\iU w F h H/\(∀k,F k->M k/\k≠X)/\(i=Q5 J↔P=J)/\∃a,i=Q5 a:=by
 obtain⟨h,i,h1,m,o⟩:=q;cases P with
 | none=>obtain⟨rfl,F,j,l⟩:=o;exact⟨h,_,F,h1,m,j,l,by simp,_,rfl⟩
 | some p=>obtain⟨a,s,rfl,⟨F,b,d,x,r,j⟩,l⟩:=o;exact⟨h,_,F,h1,m,r.kQ,fun k hk=>l k (j k (.inl hk)),by simp,_,rfl⟩
theorem OB(M:Ve)(X:Nat)(H:gA)(P:Option iM)(w:Q0)(i:lM w M X H P):
  Rg prog 48 #[Q5 (N ⟨X,0,J⟩)] w fun e w'=>e=Ra (.bool P.isSome)/\w'=w:=by
 obtain⟨h,j,h1,-,b⟩:=i;cases P with
 | none=>obtain⟨rfl,-⟩:=b;have c1:=gr 1 h1;have d:=gm h1;clear h1;go_enter func48,ntmps48;go_wp2;go_ret;exact⟨rfl,rfl⟩
 | some p=>obtain⟨a,-,rfl,-⟩:=b;have c1:=gr 1 h1;have d:=gm h1;clear h1;go_enter func48,ntmps48;go_wp2;go_ret;exact⟨rfl,rfl⟩
theorem Lg(M:Ve)(X:Nat)(H:gA)(P:Option iM)(w:Q0)(j:lM w M X H P):
  Rg prog 45 #[Q5 (N ⟨X,0,J⟩)] w fun e w'=>e=Ra (.bool H.dp.ir)/\w'=w:=by
 obtain⟨h,o,F,h1,-,⟨x,d⟩,-⟩:=j.kQ;have b:w.heap[h]?=_:=d.dp.row;unfold HV.cells at b;have c0:=gr 0 h1;have d5:=gr 5 b;have i:=d.dp.ir;have l:=gm h1;have m:=gm b;rw[i]at d5;clear h1 b i d;go_enter func45,ntmps45;go_wp2;go_ret;exact⟨rfl,rfl⟩
theorem EH(M:Ve)(X:Nat)(H:gA)(p:iM)(w:Q0)(i:lM w M X H (N p)):
  Rg prog 40 #[Q5 (N ⟨X,0,J⟩)] w fun e w'=>e=Ra (I .u64 (p.a.V:Nat))/\w'=w:=by
 obtain⟨h,a,m,h1,-,⟨F,b,d,x,hm,-⟩,-⟩:=i.Lp;have c1:=gr 1 h1;have l:=gm h1;have j:=gj hm.ag;clear h1 hm;go_enter func40,ntmps40;go_wp2_with fail;refine(Cw a h p x b d w j.o).mono ?_;rintro e w1 ⟨rfl,rfl⟩;go_wp2;go_ret;exact⟨rfl,rfl⟩
theorem Li(M:Ve)(X:Nat)(H:gA)(p:iM)(w:Q0)(q:lM w M X H (N p))(i:p.a.mN):
  Rg prog 38 #[Q5 (N ⟨X,0,J⟩)] w fun e w'=>e=Ra (Rc #[])/\mD w M X H (N {p with a:=p.a.ry}) w':=by
 obtain⟨h,a,r,h1,s,⟨F,b,d,x,hm,j⟩,u⟩:=q.Lp;have c1:=gr 1 h1;have E:=gm h1;have l:=gj hm;have B:=gj h1;have C:p.a.Gi<256:=by
  unfold iy.Gi;cases hc:p.a.me with
  | none=>simp
  | some y=>obtain⟨tv,of,got⟩:=y;obtain⟨c1,c2,-⟩:=i.me tv of got hc;simp only;omega
 clear h1 hm;go_enter func38,ntmps38;go_wp2_with fail;refine(Hz a h p x b d w l.o.ag (by have:=i.v;omega) C).mono ?_;rintro e w1 ⟨rfl,m⟩;have D:=gj (nS.Pd B.o s u (jL.th (M:=r) l.o (fun k hk=>.inl (j k hk)) (gR.refl _ _) m));clear m;go_wp2;go_end0;exact⟨rfl,D.o⟩
theorem EE(M:Ve)(X:Nat)(H:gA)(p:iM)(w:Q0)(s:lM w M X H (N p))(u:O p.a.T<=1000000000):
  Rg prog 50 #[Q5 (N ⟨X,0,J⟩)] w fun e w'=>∃v,e=Ra (Rc #[v,.bool true])/\iD w' v p.a.T/\(∀k,Rl v=N k->G (Q w)<=k)/\Below (G (Q w)) w w':=by
 obtain⟨h,a,D,h1,-,⟨F,b,d,x,hm,-⟩,-⟩:=s.Lp;have c1:=gr 1 h1;have B:=gm h1;have i:=hm.ag.row;unfold AV.cells at i;have r0:=gr 0 i;have C:=gm i;have j:Below (G (Q w)) w (Ro w (Q1 #[Q5 (N ⟨a,0,J⟩)] 219)):=(gJ w).alloc gH _;have he:jt w a 0 x.r p.a.T:=⟨r0,hm.ag.jh⟩;have l:=gj (I1 (G (Q w)) a 0 x.r p.a.T (Ro w (Q1 #[Q5 (N ⟨a,0,J⟩)] 219)) (by simp) (gr 0 (gB w _)) (he.below j) u);clear h1 hm i he;go_enter func50,ntmps50;go_wp2_with fail;refine(tV a 0 w).mono ?_;rintro e w1 ⟨rfl,rfl⟩;go_wp2_with fail;refine l.o.mono ?_;rintro e w2 ⟨v,rfl,y,m,q⟩;clear c1 r0 l;go_wp2;go_ret2;exact⟨v,rfl,y,fun k e=>au j.size (m k e),j.trans (q.mono j.size)⟩
theorem Le(M:Ve)(X:Nat)(H:gA)(P:Option iM)(w:Q0)(j:lM w M X H P)(l:O H.dp.S<=1000000):
  Rg prog 52 #[Q5 (N ⟨X,0,J⟩)] w fun e w'=>∃v,e=Ra v/\iD w' v H.dp.S/\Below (G (Q w)) w w':=by
 obtain⟨h,r,F,h1,-,⟨x,b⟩,-⟩:=j.kQ;have c0:=gr 0 h1;have q:=gm h1;have d:=gj (Lj h x H.dp.S w b.dp.row b.dp.jh l);clear h1 b;go_enter func52,ntmps52;go_wp2_with fail;refine d.o.mono ?_;rintro e w2 ⟨v,rfl,m,i⟩;clear c0 d;go_wp2;go_ret;exact⟨v,rfl,m,i⟩
theorem lM.gU(y:lM w M X H P):∃h r F x,w.heap[X]?=N (Q1 #[Q5 (N ⟨h,0,J⟩),r] 136 (0,0))/\ji w F h x H/\X≠h/\∀w' H' x',ji w' F h x' H'->gR (fun k=>k=h) w w'->mD w M X H' P w':=by
 obtain⟨h,r,h1,s,u⟩:=y;cases P with
 | none=>obtain⟨rfl,F,⟨x,i⟩,j⟩:=u;refine⟨h,_,F,x,h1,i,fun e=>(j h i.qL.1).2 e.symm,fun w' H' x' q l=>⟨M,⟨h,_,l.at (fun e=>(j h i.qL.1).2 e.symm) h1,s,rfl,F,⟨x',q⟩,j⟩,fun k=>.inl,l.mono fun k e=>e▸(j h i.qL.1).1⟩⟩
 | some p=>obtain⟨a,B,rfl,⟨F,b,d,C,hm,o⟩,j⟩:=u;obtain⟨x,i⟩:=hm.kQ;have m:=j h (o h (.inl i.qL.1));refine⟨h,_,F,x,h1,i,fun e=>m.2 e.symm,fun w' H' x' q l=>⟨M,⟨h,_,l.at (fun e=>m.2 e.symm) h1,s,a,B,rfl,⟨F,b,d,C,⟨⟨x',q⟩,hm.ag.frame l (fun k hk e=>hm.fg h i.qL.1 (e▸hk)) fun k hk e=>hm.fo h i.qL.1 (e▸hk),hm.fg,hm.fo⟩,o⟩,j⟩,fun k=>.inl,l.mono fun k e=>e▸m.1⟩⟩
theorem MW(M:Ve)(X:Nat)(H:gA)(P:Option iM)(n:Int)(w:Q0)(m:lM w M X H P)(y:n<=9223372036854775807):
  Rg prog 44 #[Q5 (N ⟨X,0,J⟩),I Y n] w fun e w'=>e=Ra (Rc #[])/\mD w M X {H with dp:={H.dp with left:=max n (-1)}} P w'/\G (Q w')=G (Q w):=by
 obtain⟨h,B,F,x,h1,i,C,j⟩:=m.gU;have b:w.heap[h]?=_:=i.dp.row;have q:=gj b;unfold HV.cells at b;have c0:=gr 0 h1;have d3:=gr 3 b;have z3:=gD 3 b;have s:=gm h1;have u:=gm b;have d:=gj i;have r:=gj j;clear h1 i j b;go_enter func44,ntmps44;go_wp2;go_end0;have l:gR (fun k=>k=h) w (Rp w ⟨h,3,J⟩ (I Y (max n (-1)))):=(gR.refl _ w).setCell ⟨h,3,J⟩ _ (.inl rfl);refine⟨rfl,r.o _ _ {x with left:=max n (-1)} (d.o.row (QN _ _ 3 _ q.o) (QO _ _ _) l ⟨rfl,rfl,rfl,rfl,rfl,rfl⟩ ⟨rfl,rfl,rfl,rfl,rfl,rfl⟩ ⟨rfl,d.o.dp.ir,d.o.fail,d.o.il⟩ ?_) l,QO _ _ _⟩;show -1<=max n (-1)/\max n (-1)<=_;omega
theorem Lf(M:Ve)(X:Nat)(H:gA)(P:Option iM)(n:Int)(w:Q0)(m:lM w M X H P):
  Rg prog 94 #[Q5 (N ⟨X,0,J⟩),I Y n] w fun e w'=>e=Ra (Rc #[])/\mD w M X {H with fail:=max n (-1)} P w'/\G (Q w')=G (Q w):=by
 obtain⟨h,y,F,x,h1,i,B,j⟩:=m.gU;have b:w.heap[h]?=_:=i.dp.row;have q:=gj b;unfold HV.cells at b;have c0:=gr 0 h1;have d3:=gr 4 b;have z3:=gD 4 b;have s:=gm h1;have u:=gm b;have d:=gj i;have r:=gj j;clear h1 i j b;go_enter func94,ntmps94;go_wp2;go_end0;have l:gR (fun k=>k=h) w (Rp w ⟨h,4,J⟩ (I Y (max n (-1)))):=(gR.refl _ w).setCell ⟨h,4,J⟩ _ (.inl rfl);exact⟨rfl,r.o _ _ {x with fail:=max n (-1)} (d.o.row (QN _ _ 4 _ q.o) (QO _ _ _) l ⟨rfl,rfl,rfl,rfl,rfl,rfl⟩ ⟨rfl,rfl,rfl,rfl,rfl,rfl⟩ ⟨d.o.dp.left,d.o.dp.ir,rfl,d.o.il⟩ d.o.dp.lb) l,QO _ _ _⟩
theorem Gj(M:Ve)(X:Nat)(H:gA)(P:Option iM)(w:Q0)(q:lM w M X H P):
  Rg prog 26 #[Q5 (N ⟨X,0,J⟩)] w fun e w'=>e=Ra (I Y H.il)/\mD w M X {H with il:=0} P w'/\G (Q w')=G (Q w):=by
 obtain⟨h,B,F,x,h1,i,C,l⟩:=q.gU;have b:w.heap[h]?=_:=i.dp.row;have r:=gj b;unfold HV.cells at b;have c0:=gr 0 h1;have d3:=gr 6 b;have z3:=gD 6 b;have j:=i.il;have u:=gm h1;have y:=gm b;have d:=gj i;have s:=gj l;rw[j]at d3;clear h1 i l b j;go_enter func26,ntmps26;go_wp2;go_ret;have m:gR (fun k=>k=h) w (Rp w ⟨h,6,J⟩ (I Y 0)):=(gR.refl _ w).setCell ⟨h,6,J⟩ _ (.inl rfl);exact⟨rfl,s.o _ _ {x with il:=0} (d.o.row (QN _ _ 6 _ r.o) (QO _ _ _) m ⟨rfl,rfl,rfl,rfl,rfl,rfl⟩ ⟨rfl,rfl,rfl,rfl,rfl,rfl⟩ ⟨d.o.dp.left,d.o.dp.ir,d.o.fail,rfl⟩ d.o.dp.lb) m,QO _ _ _⟩
theorem ji.Qt{F:Ve}{x:HV}(b:ji w F h x H)(h1:iQ w1 h {x with iF:=Q6 J 0 0})(B:G (Q w1)=G (Q w))(s:gR (fun i=>i=h) w w1):
  ji w1 F h {x with iF:=Q6 J 0 0} {H with dp:={H.dp with iF:=[]}}:=by
 have m:w.heap[h]?=_:=b.dp.row;have l:G (Q w)<=G (Q w1):=by omega
 have q:∀(k:Nat) (C:Array Q4) (t:Ri) (d:Nat×Nat),w.heap[k]?=N (Q1 C t d)->t≠125->w1.heap[k]?=w.heap[k]?:=fun k C t d hk u=>s.block k (gm hk) fun e=>by have y:k=h:=e;rw[y,m]at hk;cases hk;exact u rfl
 have j:=b.dp;obtain⟨f1,f2,f3⟩:=b.qL;refine⟨⟨h1,j.left,j.ir,j.room,j.jh.iI (s.block _ j.jh.lt fun e=>j.jh.mZ m (show x.r=h from e).symm),gS.nil _ _ _,gQ.nil _ _,⟨aJ _,aJ _⟩,j.lb⟩,b.fail,b.il,?_,?_,?_,b.pV,⟨f1,f2,fun k e=>by simp[Value.ownBlock]at e⟩,fun k hk=>ae (b.lt k hk) l⟩
 .exact b.held.iI l fun k C t d hk o _=>q k C t d hk (by rcases o with rfl|rfl<;>decide)
 .exact b.gG.iI l fun k C t d hk o _=>q k C t d hk (by rcases o with rfl|rfl<;>decide)
 .exact b.gX.iI l fun k C t d hk o _=>q k C t d hk (by rcases o with rfl|rfl<;>decide)
theorem MX(M:Ve)(X:Nat)(H:gA)(P:Option iM)(w:Q0)(B:lM w M X H P):
  Rg prog 31 #[Q5 (N ⟨X,0,J⟩)] w fun e w'=>∃v,e=Ra v/\gE w' v 1 (O H.dp.iF) (jr H.dp.iF)/\mD w M X {H with dp:={H.dp with iF:=[]}} P w'/\G (Q w')=G (Q w):=by
 obtain⟨h,W,F,x,h1,j,Z,r⟩:=B.gU;have d:w.heap[h]?=_:=j.dp.row;have s:=gj d;obtain⟨la,lc,i⟩:=j.dp.own.shape;unfold HV.cells at d;have c0:=gr 0 h1;have d3:=gr 11 d;have z3:=gD 11 d;have U:=gm h1;have V:=gm d;have m:=gj j;have D:=gj r;have u:=gj i;rw[i]at d3;clear h1 j r d i;go_enter func31,ntmps31;go_wp2;go_ret;have q:gR (fun k=>k=h) w (Rp w ⟨h,11,J⟩ (Q6 J 0 0)):=(gR.refl _ w).setCell ⟨h,11,J⟩ _ (.inl rfl);refine⟨_,rfl,?_,D.o _ _ _ (m.o.Qt (QN _ _ 11 _ s.o) (QO _ _ _) q) q,QO _ _ _⟩;have y:=m.o.dp.own;have l:=m.o.dp.qN;rw[u.o]at y l;refine(y.frame (Nat.le_of_eq (QO _ _ _).symm) fun b e E=>?_).sliceAt;obtain⟨C,fz,R⟩:=l b e;exact q.block b E fun S=>kK R s.o (by decide) S
end Go.Proofs.YtkkfmkhbdoeglabGreatDoor
