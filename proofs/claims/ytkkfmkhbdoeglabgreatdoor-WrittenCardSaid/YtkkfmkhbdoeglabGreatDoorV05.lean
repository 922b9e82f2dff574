/- Lemmas of the proof. No condition. -/
import Derived.Test.YtkkfmkhbdoeglabGreatDoorV00
namespace Go.Proofs.YtkkfmkhbdoeglabGreatDoor
open List renaming length->O
open Option renaming none->J,some->N
variable{at' b i n p s s' v v':Nat}{data:gw}
structure jD where
 gF:Nat
 i:Nat
 of:Nat
 ok:Bool
 data:gw
variable{d d' ps:List jD}
instance:Inhabited jD:=⟨⟨0,0,0,false,[]⟩⟩
structure nX where
 gF:Nat
 data:gw
 to:Nat
variable{l:List (Nat×nX)}{x:nX}
def rM(d:List jD)(at' s n i:Nat):Bool:=match d[at'+i]? with
 | some b=>b.gF==s&&b.i==i&&b.of==n&&b.ok
 | none=>false
def jm(d:List jD)(at' n:Nat):gw:=(List.range n).flatMap fun i=>(d.getD (at'+i) default).data
def kP(d:List jD)(at':Nat):Option nX:=match d[at']? with
 | none=>J
 | some b=>if b.gF≠0/\0<b.of/\(List.range b.of).all (rM d at' b.gF b.of)=true then N ⟨b.gF,jm d at' b.of,at'+b.of⟩else J
theorem rN   : rM d at' s n i=true↔∃b,d[at'+i]?=N b/\b.gF=s/\b.i=i/\b.of=n/\b.ok=true:=by
 unfold rM;split
 .rename_i b h;simp only[h,dz,dQ,aT];constructor
  .rintro⟨⟨⟨h1,j⟩,l⟩,m⟩;exact⟨b,rfl,h1,j,l,m⟩
  .rintro⟨o,rfl,h1,j,l,m⟩;exact⟨⟨⟨h1,j⟩,l⟩,m⟩
 .rename_i h;simp[h]
def je(d:List jD)(at':Nat)(x:nX):Prop:=
 ∃n,0<n/\x.gF≠0/\x.to=at'+n/\x.data=jm d at' n/\∀i,i<n->∃b,d[at'+i]?=N b/\b.gF=x.gF/\b.i=i/\b.of=n/\b.ok=true
theorem lY    : kP d at'=N x↔je d at' x:=by
 unfold kP je;constructor
 .intro h;split at h
  .cases h
  .rename_i b l;split at h
   .rename_i hc;obtain⟨h1,q,j⟩:=hc;cases h;refine⟨b.of,q,h1,rfl,rfl,fun i m=>?_⟩;exact rN.1 (eP.1 j i (dC.2 m))
   .cases h
 .rintro⟨n,r,B,s,u,y⟩;obtain⟨b,l,h1,q,j,C⟩:=y 0 r;rw[cL]at l;simp only[l];have o:(List.range b.of).all (rM d at' b.gF b.of)=true:=by rw[h1,j];exact eP.2 fun i m=>rN.2 (y i (dC.1 m))
  rw[aw ⟨by rw[h1];exact B,by rw[j];exact r,o⟩];cases x;simp only at h1 s u⊢;subst s u;rw[h1,j]
theorem pP{α β:Type}{l:List α}{f g:α->List β}(h:∀a∈l,f a=g a):l.flatMap f=l.flatMap g:=by
 induction l with
 | nil=>rfl
 | cons a l ih=>rw[dF,dF,h a (by simp),ih fun b d=>h b (aR _ d)]
theorem FX(h:∀j,at'<=j->j<at'+n->d'[j]?=d[j]?):jm d' at' n=jm d at' n:=by unfold jm;refine pP fun i b=>?_;have:=h (at'+i) (by omega) (by have:=dC.1 b;omega);simp only[aD,this]
theorem je.congr(h:je d at' x)(hc:∀j,at'<=j->j<x.to->d'[j]?=d[j]?):je d' at' x:=by obtain⟨n,b,l,m,o,q⟩:=h;refine⟨n,b,l,m,by rw[o,FX (fun j h1 s=>hc j h1 (by omega))],fun i r=>?_⟩;rw[hc (at'+i) (by omega) (by omega)];exact q i r
theorem je.lt(h:je d at' x):at'<x.to/\x.to<=O d:=by obtain⟨n,l,m,o,q,i⟩:=h;obtain⟨b,j,-⟩:=i (n-1) (by omega);have:=(aH.1 j).1;omega
theorem je.vO(h:je d at' x):∃b∈d,b.gF=x.gF:=by obtain⟨n,i,m,o,q,j⟩:=h;obtain⟨b,l,h1,-⟩:=j 0 i;exact⟨b,be l,h1⟩
theorem je.Qz{y:nX}(h:je d at' x)(k:je d at' y):x=y:=by have:=(lY.2 h).symm.trans (lY.2 k);exact Option.some.inj this
structure qU(d d':List jD)(at':Nat)(ps:List jD):Prop where
 len:O d'=O d
 get:∀j,d'[j]?=d[j]?\/(at'<=j/\j<at'+O ps/\d'[j]?=ps[j-at']?)
def pd(d':List jD)(at':Nat)(ps:List jD):Prop:=∀i,i<O ps->d'[at'+i]?=ps[i]?
structure sR(s:Nat)(ps:List jD)(data:gw):Prop where
 qA:0<O ps
 get:∀(i:Nat) (p:jD),ps[i]?=N p->p.gF=s/\p.i=i/\p.of=O ps/\p.ok=true
 data:data=ps.flatMap (·.data)
theorem qU.off(h:qU d d' at' ps){j:Nat}(b:j<at'\/at'+O ps<=j):d'[j]?=d[j]?:=by
 rcases h.get j with e|⟨h1,i,-⟩
 .exact e
 .omega
theorem Bd(ps:List jD):ps.flatMap (·.data)=(List.range (O ps)).flatMap fun i=>(ps.getD i default).data:=by
 induction ps with
 | nil=>rfl
 | cons p ps ih=>rw[dF,ih,ao,List.range_succ_eq_map,dF,List.flatMap_map];rfl
theorem xg(d:sR s ps data)(m:s≠0)(j:pd d' at' ps):je d' at' ⟨s,data,at'+O ps⟩:=by
 refine⟨O ps,d.qA,m,rfl,?_,fun i b=>?_⟩
 .rw[d.data,Bd];unfold jm;refine pP fun i b=>?_;rw[aD,aD,j i (dC.1 b)]
 .have l:ps[i]?=N ps[i]:=ah b;obtain⟨h1,o,q,r⟩:=d.get i _ l;exact⟨ps[i],by rw[j i b,l],h1,o,q,r⟩
theorem qJ(hm:qU d d' at' ps)(D:sR s ps data)(E:∀b∈d,b.gF<s)(h:je d' i x):
  (i=at'/\x=⟨s,data,at'+O ps⟩/\pd d' at' ps)\/(je d i x/\x.gF<s/\∀j,i<=j->j<x.to->d'[j]?=d[j]?):=by
 obtain⟨n,u,F,M,R,o⟩:=h;have q:∀(j:Nat) (b:jD),at'<=j->j<at'+O ps->d'[j]?=ps[j-at']?->d'[j]?=N b->b.gF=s/\b.i=j-at'/\b.of=O ps:=by intro j b _ _ r S;rw[S]at r;obtain⟨h1,l,r,-⟩:=D.get _ _ r.symm;exact⟨h1,l,r⟩
 have hold:∀(j:Nat) (b:jD),d'[j]?=d[j]?->d'[j]?=N b->b.gF<s:=fun j b h1 l=>E b (be (h1.symm.trans l));by_cases U:x.gF=s
 .left;have key:∀k,k<n->at'<=i+k/\i+k<at'+O ps/\d'[i+k]?=ps[i+k-at']?/\k=i+k-at'/\n=O ps:=by
   intro k hk;obtain⟨b,m,h1,l,r,S⟩:=o k hk;rcases hm.get (i+k)with e|⟨y,B,C⟩
   .have:=hold _ _ e m;omega
   .obtain⟨g1,g2,Z⟩:=q _ _ y B C m;exact⟨y,B,C,by omega,by omega⟩
  obtain⟨k1,k2,k3,k4,X⟩:=key 0 u;have V:i=at':=by omega
  subst V X;have W:pd d' i ps:=fun k hk=>by obtain⟨-,-,e,-,-⟩:=key k hk;rw[e,Nat.add_sub_cancel_left]
  refine⟨rfl,?_,W⟩;have:=xg D (by omega:s≠0) W;exact je.Qz ⟨_,u,F,M,R,o⟩ this
 .right;have key:∀j,i<=j->j<x.to->d'[j]?=d[j]?:=by
   intro j h1 l;obtain⟨b,m,g1,-⟩:=o (j-i) (by omega);rw[show i+(j-i)=j by omega]at m;rcases hm.get j with e|⟨y,B,C⟩
   .exact e
   .exact absurd ((g1.symm).trans (q _ _ y B C m).1) U
  refine⟨je.congr ⟨n,u,F,M,R,o⟩ fun j h1 l=>(key j h1 l).symm,?_,key⟩;obtain⟨b,m,g1,-⟩:=o 0 u;rw[<-g1];exact hold _ _ (key (i+0) (by omega) (by omega)) m
theorem qU.take(h:qU d d' at' ps)(m:Nat):qU (d.take m) (d'.take m) at' ps:=by
 refine⟨by rw[ax,ax,h.len],fun j=>?_⟩;by_cases b:j<m
 .rw[bF b,bF b];exact h.get j
 .left;rw[dJ (by rw[ax];omega),dJ (by rw[ax];omega)]
section
variable {T Ob:Type} (decS:gw->Option (Nat×T)) (decD:gw->Option (Nat×Ob)) (app:T->Ob->T)
def p6(d:List jD)(p:Nat)(acc:Nat×Nat×Nat×T)(s:Nat):Nat×Nat×Nat×T:=match kP (d.take (2*p)) (s*p) with
 | some x=>if acc.1<x.gF then(match decS x.data with
  | some (v,t)=>(x.gF,s,v,t)
  | none=>acc)else acc
 | none=>acc
def yQ(d:List jD)(p:Nat)(t0:T):Nat×Nat×Nat×T:=p6 decS d p (p6 decS d p (0,0,0,t0) 0) 1
def mx(d:List jD)(ver:Nat)(acc:Option (Nat×Nat×Ob))(i:Nat):Option (Nat×Nat×Ob):=match kP d i with
 | some x=>(match decD x.data with
  | some (v,o)=>if v=ver/\(acc.elim 0 (·.1))<x.gF then N (x.gF,x.to,o)else acc
  | none=>acc)
 | none=>acc
def DO(d:List jD)(l:List Nat)(ver:Nat):Option (Nat×Nat×Ob):=l.foldl (mx decD d ver) J
def kH(d:List jD)(p:Nat):List Nat:=List.range' (2*p) (O d-2*p)
def n9(pick:Nat->Option (Nat×Nat×Ob)):Nat->Nat->Nat->T->Nat->Nat×T×Nat
 | 0,_,v,t,next=>(v,t,next)
 | f+1,b,v,t,next=>match pick (v+1) with
  | some (st,to,o)=>if st<b then(v,t,next)else n9 pick f st (v+1) (app t o) to
  | none=>(v,t,next)
inductive pH(d:List jD):Nat->Nat->T->Nat->List (Nat×nX)->Nat->Nat->T->Nat->Prop
 | nil (s v:Nat) (t:T) (qA:Nat):pH d s v t qA [] s v t qA
 | cons {s v qA s' v' pos':Nat} {t t':T} {l:List (Nat×nX)} (x:nX) (o:Ob) (hw:je d qA x) (hd:decD x.data=N (v+1,o)) (hs:s<x.gF)
   (h:pH d x.gF (v+1) (app t o) x.to l s' v' t' pos'):pH d s v t qA ((qA,x)::l) s' v' t' pos'
def uI(d:List jD)(p iC b i:Nat)(j t0:T):Prop:=
 (b=0/\i=0/\j=t0/\iC=0/\∀s x,s<2->¬je (d.take (2*p)) (s*p) x)\/
 (iC<2/\(∃x,je (d.take (2*p)) (iC*p) x/\x.gF=b/\decS x.data=N (i,j)/\x.to<=iC*p+p)/\∀y,je (d.take (2*p)) ((1-iC)*p) y->y.gF<b)
def j9(t0:T)(d:List jD)(p iC v:Nat)(t:T)(next:Nat):Prop:=
 ∃b j m l o,uI decS d p iC b j m t0/\pH decD app d b j m (2*p) l o v t next/\∀i x,2*p<=i->je d i x->(i,x)∈l\/x.gF<b
variable {decS decD app}
theorem pH.qA{qA:Nat}{t t':T}(h:pH decD app d s v t qA l s' v' t' b):qA<=b/\s<=s'/\v'=v+O l/\∀y∈l,qA<=y.1/\y.2.to<=b/\s<y.2.gF/\y.2.gF<=s'/\je d y.1 y.2:=by
 induction h with
 | nil s v t qA=>exact⟨aq _,aq _,rfl,fun y i=>by cases i⟩
 | cons x o j B m h ih=>
  obtain⟨h1,q,r,u⟩:=ih;have:=j.lt;refine⟨by omega,by omega,by rw[r,ao];omega,fun y i=>?_⟩;rcases aZ.1 i with rfl|i
  .exact⟨aq _,h1,m,q,j⟩
  .obtain⟨g1,g2,C,g4,g5⟩:=u y i;exact⟨by omega,g2,by omega,g4,g5⟩
theorem pH.congr{qA:Nat}{t t':T}(h:pH decD app d s v t qA l s' v' t' b)(hc:∀j,qA<=j->j<b->d'[j]?=d[j]?):pH decD app d' s v t qA l s' v' t' b:=by
 induction h with
 | nil s v t qA=>exact .nil s v t qA
 | cons x o i q r h ih=>have:=i.lt;have:=h.qA.1;exact .cons x o (i.congr fun j h1 m=>hc j h1 (by omega)) q r (ih fun j h1 m=>hc j (by omega) m)
theorem pH.snoc{qA:Nat}{t t':T}(h:pH decD app d s v t qA l s' v' t' b)(x:nX)(o:Ob)(i:je d b x)(j:decD x.data=N (v'+1,o))(m:s'<x.gF):
  pH decD app d s v t qA (l++[(b,x)]) x.gF (v'+1) (app t' o) x.to:=by
 induction h with
 | nil s v t qA=>exact .cons x o i j m (.nil _ _ _ _)
 | cons y o' q r u h ih=>exact .cons y o' q r u (ih i j m)
theorem vM{ver:Nat}: ∀(l:List Nat) (acc:Option (Nat×Nat×Ob)),
  (∀r,l.foldl (mx decD d ver) acc=N r->acc=N r\/∃i∈l,∃x o,je d i x/\decD x.data=N (ver,o)/\r=(x.gF,x.to,o))/\
  (∀i∈l,∀x o,je d i x->decD x.data=N (ver,o)->∃r,l.foldl (mx decD d ver) acc=N r/\x.gF<=r.1)/\
  (∀r,acc=N r->∃b,l.foldl (mx decD d ver) acc=N b/\r.1<=b.1)
 | [],acc=>⟨fun r h=>.inl h,fun i h=>(by cases h),fun r h=>⟨r,h,aq _⟩⟩
 | i::l,acc=>by
  obtain⟨h1,W,S⟩:=vM l (mx decD d ver acc i);have s:mx decD d ver acc i=acc\/∃x o,je d i x/\decD x.data=N (ver,o)/\mx decD d ver acc i=N (x.gF,x.to,o)/\acc.elim 0 (·.1)<x.gF:=by
   unfold mx;split
   .rename_i x X;split
    .rename_i v o C;split
     .rename_i hc;obtain⟨rfl,hc⟩:=hc;exact .inr ⟨x,o,lY.1 X,C,rfl,hc⟩
     .exact .inl rfl
    .exact .inl rfl
   .exact .inl rfl
  have U:∀r,acc=N r->∃b,mx decD d ver acc i=N b/\r.1<=b.1:=by
   intro r m;rcases s with e|⟨x,o,-,-,e,E⟩
   .exact⟨r,e.trans m,aq _⟩
   .exact⟨_,e,by rw[m]at E;exact Nat.le_of_lt E⟩
  rw[eJ];refine⟨fun r m=>?_,fun j u x o F C=>?_,fun r m=>?_⟩
  .rcases h1 r m with e|⟨j,u,x,o,g1,g2,Z⟩
   .rcases s with M|⟨x,o,g1,g2,M,-⟩
    .exact .inl (M.symm.trans e)
    .refine .inr ⟨i,by simp,x,o,g1,g2,?_⟩;rw[M]at e;exact(Option.some.inj e).symm
   .exact .inr ⟨j,aR _ u,x,o,g1,g2,Z⟩
  .rcases aZ.1 u with rfl|u
   .have:∃r,mx decD d ver acc j=N r/\x.gF<=r.1:=by
     unfold mx;rw[lY.2 F];simp only[C,true_and];split
     .exact⟨_,rfl,aq _⟩
     .rename_i D;cases acc with
      | none=>obtain⟨n,-,h0,-⟩:=F;simp at D;exact absurd D h0
      | some r=>exact⟨r,rfl,by simp at D;exact D⟩
    obtain⟨r,m,y⟩:=this;obtain⟨b,B,q⟩:=S r m;exact⟨b,B,au y q⟩
   .exact W j u x o F C
  .obtain⟨b,B,y⟩:=U r m;obtain⟨V,R,q⟩:=S b B;exact⟨V,R,au y q⟩
theorem I3(b:2*p<=i)(h:je d i x):i∈kH d p:=by have:=h.lt;unfold kH;rw[List.mem_range'_1];omega
theorem DQ(h:i∈kH d p):2*p<=i:=by unfold kH at h;rw[List.mem_range'_1]at h;exact h.1
theorem pH.ver{qA:Nat}{t t':T}(h:pH decD app d s v t qA l s' v' t' i):∀(y:Nat×nX),y∈l->∃k o,v<k/\k<=v'/\decD y.2.data=N (k,o):=by
 induction h with
 | nil s v t qA=>exact fun y b=>by cases b
 | cons x o q j r h ih=>
  have u:=h.qA.2.2.1;intro y b;rcases aZ.1 b with rfl|b
  .exact⟨_,o,Nat.lt_succ_self _,by omega,j⟩
  .obtain⟨k,o',g1,g2,m⟩:=ih y b;exact⟨k,o',by omega,g2,m⟩
theorem JE{iC C o:Nat}{q t0:T}(h:uI decS d p iC C o q t0):yQ decS d p t0=(C,iC,o,q):=by
 have u:∀s acc,(∀x,¬je (d.take (2*p)) (s*p) x)->p6 decS d p acc s=acc:=fun s acc b=>by
  unfold p6;split
  .rename_i x i;exact absurd (lY.1 i) (b x)
  .rfl
 have j:∀s acc x v t,je (d.take (2*p)) (s*p) x->acc.1<x.gF->decS x.data=N (v,t)->p6 decS d p acc s=(x.gF,s,v,t):=fun s acc x v t l hl r=>by unfold p6;rw[lY.2 l];simp only[hl,r,dX]
 have m:∀s (acc:Nat×Nat×Nat×T),(∀y,je (d.take (2*p)) (s*p) y->y.gF<acc.1)->p6 decS d p acc s=acc:=fun s acc b=>by
  unfold p6;split
  .rename_i x i;rw[af (by have:=b x (lY.1 i);omega)]
  .rfl
 have D:∀s (acc:Nat×Nat×Nat×T),(p6 decS d p acc s).1=acc.1\/∃y,je (d.take (2*p)) (s*p) y/\(p6 decS d p acc s).1=y.gF:=fun s acc=>by
  unfold p6;split
  .rename_i x i;split
   .split
    .exact .inr ⟨x,lY.1 i,rfl⟩
    .exact .inl rfl
   .exact .inl rfl
  .exact .inl rfl
 unfold yQ;rcases h with ⟨rfl,rfl,rfl,rfl,b⟩|⟨F,⟨x,l,rfl,r,-⟩,E⟩
 .rw[u 0 _ (fun x=>b 0 x (by omega)),u 1 _ (fun x=>b 1 x (by omega))]
 .have M:x.gF≠0:=l.elim fun n h=>h.2.1;obtain rfl|rfl:iC=0\/iC=1:=by omega
  .rw[j 0 _ x o q l (by show 0<x.gF;omega) r,m 1 _ (fun y B=>E y B)]
  .refine j 1 _ x o q l ?_ r;rcases D 0 (0,0,0,t0)with e|⟨y,B,e⟩
   .rw[e];show 0<x.gF;omega
   .rw[e];exact E y B
theorem FO{L:List (Nat×nX)}{F:Nat}(j:∀i x,2*p<=i->je d i x->(i,x)∈L\/x.gF<F)(W:∀y∈L,∀z∈L,∀k o o',decD y.2.data=N (k,o)->decD z.2.data=N (k,o')->y=z){qA:Nat}{t t':T}(h:pH decD app d s v t qA l s' v' t' b)(h0:F<=s)(X:2*p<=qA)(m:∀y∈l,y∈L)(q:∀y∈L,∀k o,decD y.2.data=N (k,o)->k<=v')(f:Nat)(Z:O l<f):
  n9 app (DO decD d (kH d p)) f s v t qA=(v',t',b):=by
 induction h generalizing f with
 | nil s v t qA=>
  cases f with
  | zero=>omega
  | succ f=>
   unfold n9;split
   .rename_i st to o M;rcases(vM (decD:=decD) (kH d p) J).1 _ M with e|⟨i,E,x,o',u,B,e⟩
    .cases e
    .cases e;rcases j i x (DQ E) u with hm|R
     .have:=q _ hm _ _ B;omega
     .rw[aw (by omega)]
   .rfl
 | @cons s v qA s' v' b t t' l x o u B hs h ih=>
  cases f with
  | zero=>omega
  | succ f=>
   have R:=u.lt;have D:DO decD d (kH d p) (v+1)=N (x.gF,x.to,o):=by
    obtain⟨r,S,U⟩:=(vM (decD:=decD) (d:=d) (ver:=v+1) (kH d p) J).2.1 qA (I3 X u) x o u B;rcases(vM (decD:=decD) (kH d p) J).1 _ S with e|⟨i,E,x',o',V,C,e⟩
    .cases e
    .subst e;rcases j i x' (DQ E) V with hm|aa
     .have:=W _ (m _ cy) _ hm _ _ _ B C;cases this;rw[B]at C;cases C;exact S
     .simp only at U;omega
   unfold n9;simp only[D];rw[af (by omega)];exact ih (by omega) (by omega) (fun y hy=>m y (aR _ hy)) q f (by simp at Z;omega)
theorem pH.inj{qA:Nat}{t t':T}(h:pH decD app d s v t qA l s' v' t' b):∀y∈l,∀z∈l,∀k o o',decD y.2.data=N (k,o)->decD z.2.data=N (k,o')->y=z:=by
 induction h with
 | nil s v t qA=>exact fun y q=>by cases q
 | @cons s v qA s' v' b t t' l x o F u M h ih=>
  intro y q z B k C D h1 i;rcases aZ.1 q with rfl|j<;>rcases aZ.1 B with rfl|m
  .rfl
  .obtain⟨E,o',g1,g2,r⟩:=h.ver z m;rw[r]at i;rw[u]at h1;cases h1;cases i;omega
  .obtain⟨E,o',g1,g2,r⟩:=h.ver y j;rw[r]at h1;rw[u]at i;cases h1;cases i;omega
  .exact ih y j z m k C D h1 i
theorem j9.found{t0:T}{iC:Nat}{t:T}{next:Nat}(h:j9 decS decD app t0 d p iC v t next):
  ∃i j m,yQ decS d p t0=(i,iC,j,m)/\∀f,O d<f->n9 app (DO decD d (kH d p)) f i j m (2*p)=(v,t,next):=by
 obtain⟨i,j,m,l,M,C,hc,q⟩:=h;refine⟨i,j,m,JE C,fun f D=>FO q hc.inj hc gH gH (fun _ h=>h) (fun y E k o r=>?_) f ?_⟩
 .obtain⟨R,o',-,g2,u⟩:=hc.ver y E;rw[r]at u;cases u;exact g2
 .refine fQ ?_ D;have key:∀{s v qA s' v' b:Nat} {t t':T} {l:List (Nat×nX)},pH decD app d s v t qA l s' v' t' b->O l+qA<=b/\(l=[]\/b<=O d):=by
   intro s v qA s' v' b t t' l h
   induction h with
   | nil=>exact⟨by simp,.inl rfl⟩
   | cons x o F r S h ih=>
    have:=F.lt;refine⟨by rw[ao];omega,.inr ?_⟩;rcases ih.2 with rfl|e
    .cases h;exact this.2
    .exact e
  obtain⟨U,B⟩:=key hc;rcases B with rfl|B
  .exact aJ _
  .omega
theorem j9.ES{t0:T}{iC:Nat}{t:T}{next:Nat}(h:j9 decS decD app t0 d p iC v t next):2*p<=next/\iC<2:=by
 obtain⟨i,j,m,l,o,b,hc,-⟩:=h;refine⟨hc.qA.1,?_⟩;rcases b with ⟨-,-,-,rfl,-⟩|⟨h,-⟩
 .omega
 .exact h
theorem uI.gF{iC l:Nat}{m t0:T}(h:uI decS d p iC i l m t0)(j:∀b∈d,b.gF<s)(o:0<s):i<s:=by
 rcases h with ⟨rfl,-⟩|⟨-,⟨x,q,rfl,-,-⟩,-⟩
 .exact o
 .obtain⟨b,r,e⟩:=q.vO;rw[<-e];exact j b (eC r)
theorem uI.congr{iC:Nat}{j t0:T}(h:uI decS d p iC b i j t0)(e:d'.take (2*p)=d.take (2*p)):uI decS d' p iC b i j t0:=by unfold uI at h⊢;rw[e];exact h
theorem qU.OZ(h:qU d d' at' ps){m:Nat}(hm:m<=at'):d'.take m=d.take m:=by
 refine List.ext_getElem? fun j=>?_;by_cases b:j<m
 .rw[bF b,bF b,h.off (.inl (by omega))]
 .rw[dJ (by rw[ax];omega),dJ (by rw[ax];omega)]
theorem j9.delta{t0:T}{iC:Nat}{t:T}{next:Nat}{o:Ob}(h:j9 decS decD app t0 d p iC v t next)(hm:qU d d' next ps)(E:sR s ps data)(q:∀b∈d,b.gF<s)(S:0<s)(U:decD data=N (v+1,o)):(pd d' next ps->j9 decS decD app t0 d' p iC (v+1) (app t o) (next+O ps))/\(¬pd d' next ps->j9 decS decD app t0 d' p iC v t next):=by
 have V:=h.ES.1;obtain⟨W,X,Z,l,sN,hb,hc,u⟩:=h;have C:=hb.congr (hm.OZ V);have D:=hc.congr (d':=d') fun j h1 h2=>hm.off (.inl h2);have ak:=hb.gF q S;have al:sN<s:=by
  have hp:=hc.qA;rcases List.eq_nil_or_concat l with rfl|⟨l',y,rfl⟩
  .cases hc;exact ak
  .have:∀{s v qA s' v' m:Nat} {t t':T} {l:List (Nat×nX)},pH decD app d s v t qA l s' v' t' m->l≠[]->∃y∈l,y.2.gF=s':=by
    intro s v qA s' v' m t t' l h
    induction h with
    | nil=>exact fun h=>absurd rfl h
    | @cons s v qA s' v' m t t' l x o r U S h ih=>
     intro _;cases l with
     | nil=>cases h;exact⟨_,cy,rfl⟩
     | cons z l=>obtain⟨y,F,e⟩:=ih (by simp);exact⟨y,aR _ F,e⟩
   obtain⟨y,F,e⟩:=this hc (by simp);obtain⟨-,-,-,-,r⟩:=hp.2.2.2 y F;obtain⟨b,am,e2⟩:=r.vO;have:=q b am;omega
 refine⟨fun M=>?_,fun M=>?_⟩
 .refine⟨W,X,Z,_,_,C,D.snoc ⟨s,data,next+O ps⟩ o (xg E (by omega) M) U al,fun i x R r=>?_⟩;rcases qJ hm E q r with ⟨rfl,rfl,-⟩|⟨B,-,-⟩
  .exact .inl (by simp)
  .exact(u i x R B).imp (fun h=>fA _ h) id
 .refine⟨W,X,Z,l,sN,C,D,fun i x R r=>?_⟩;rcases qJ hm E q r with ⟨rfl,rfl,ap⟩|⟨B,-,-⟩
  .exact absurd ap M
  .exact u i x R B
theorem j9.nG{t0:T}{iC:Nat}{t:T}{next:Nat}{t':T}(h:j9 decS decD app t0 d p iC v t next)(hm:qU d d' ((1-iC)*p) ps)(u:sR s ps data)(hp:O ps<=p)(hl:2*p<=O d)(B:∀b∈d,b.gF<s)(hs:0<s)(hd:decS data=N (v',t')):(pd d' ((1-iC)*p) ps->j9 decS decD app t0 d' p (1-iC) v' t' (2*p))/\(¬pd d' ((1-iC)*p) ps->j9 decS decD app t0 d' p iC v t next):=by
 have ba:=h.ES.2;obtain⟨s0,v0,tb,l,sN,M,hc,V⟩:=h;have bb:(1-iC)*p+p<=2*p:=by
  obtain rfl|rfl:iC=0\/iC=1:=by omega
  .omega
  .omega
 have C:∀j,2*p<=j->d'[j]?=d[j]?:=fun j hj=>hm.off (.inr (by omega));have aa:=hc.congr (d':=d') fun j h1 W=>C j h1;have U:∀i x,2*p<=i->je d' i x->je d i x:=fun i x o m=>m.congr fun j h1 _=>(C j (by omega)).symm;have bc:=M.gF B hs;have q:∀b∈d.take (2*p),b.gF<s:=fun b M=>B b (eC M);have D:=hm.take (2*p);have ap:iC*p+p<=(1-iC)*p\/(1-iC)*p+p<=iC*p\/p=0:=by
  obtain rfl|rfl:iC=0\/iC=1:=by omega
  .left;omega
  .right;left;omega
 have bi:=u.qA;have R:∀j,iC*p<=j->j<iC*p+p->d'[j]?=d[j]?:=fun j h1 W=>hm.off (by omega);refine⟨fun X=>?_,fun X=>?_⟩
 .have r:pd (d'.take (2*p)) ((1-iC)*p) ps:=fun i o=>by
   rw[bF (by omega)];exact X i o
  have Z:=xg u (by omega:s≠0) r;refine⟨s,v',t',[],s,.inr ⟨by omega,⟨_,Z,rfl,hd,by show _+O ps<=_;omega⟩,fun y S=>?_⟩,.nil _ _ _ _,fun i x o m=>.inr ?_⟩
  .rw[show 1-(1-iC)=iC by omega]at S;rcases qJ D u q S with ⟨e,-,-⟩|⟨-,ag,-⟩
   .omega
   .exact ag
  .obtain⟨b,ak,e⟩:=(U i x o m).vO;rw[<-e];exact B b ak
 .have r:¬pd (d'.take (2*p)) ((1-iC)*p) ps:=fun h=>X fun i o=>by
   have:=h i o;rw[bF (by omega)]at this;exact this
  refine⟨s0,v0,tb,l,sN,?_,aa,fun i x o m=>V i x o (U i x o m)⟩;rcases M with ⟨h1,W,h3,h4,al⟩|⟨h1,⟨x,m,e1,e2,e3⟩,ho⟩
  .refine .inl ⟨h1,W,h3,h4,fun s' x am m=>?_⟩;rcases qJ D u q m with ⟨-,-,E⟩|⟨F,-,-⟩
   .exact r E
   .exact al s' x am F
  .refine .inr ⟨h1,⟨x,?_,e1,e2,e3⟩,fun y S=>?_⟩
   .refine m.congr fun j g1 g2=>?_;have:=m.lt.2;rw[ax]at this;rw[bF (by omega),bF (by omega)];exact R j g1 (by omega)
   .rcases qJ D u q S with ⟨-,-,E⟩|⟨F,-,-⟩
    .exact absurd E r
    .exact ho y F
end
end Go.Proofs.YtkkfmkhbdoeglabGreatDoor
