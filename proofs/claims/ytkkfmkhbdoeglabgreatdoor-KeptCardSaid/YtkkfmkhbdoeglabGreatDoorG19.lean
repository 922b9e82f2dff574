/- A part of what is proved here: lemmas and contracts of single functions. No condition but those that each names. -/
import Derived.Test.YtkkfmkhbdoeglabGreatDoorG00
namespace Go.Proofs.YtkkfmkhbdoeglabGreatDoor
structure Part where
 stamp:Nat
 i:Nat
 of:Nat
 ok:Bool
 data:List UInt8
instance:Inhabited Part:=⟨⟨0,0,0,false,[]⟩⟩
structure Thing where
 stamp:Nat
 data:List UInt8
 to:Nat
def nV (d:List Part) (at' s n i:Nat):Bool:=match d[at'+i]? with
 | some b=>b.stamp==s&&b.i==i&&b.of==n&&b.ok
 | none=>false
def gE (d:List Part) (at' n:Nat):List UInt8:=(List.range n).flatMap fun i=>(d.getD (at'+i) default).data
def iZ (d:List Part) (at':Nat):Option Thing:=match d[at']? with
 | none=>none
 | some b=>if b.stamp≠0∧0<b.of∧(List.range b.of).all (nV d at' b.stamp b.of)=true then some ⟨b.stamp,gE d at' b.of,at'+b.of⟩ else none
theorem nW {d:List Part} {at' s n i:Nat} : nV d at' s n i=true↔∃ b,d[at'+i]?=some b∧b.stamp=s∧b.i=i∧b.of=n∧b.ok=true:=by
 unfold nV
 split
 ·rename_i b h
  simp only [h,eP,dO,a8]
  constructor
  ·rintro ⟨⟨⟨h1,h2⟩,h3⟩,h4⟩
   exact ⟨b,rfl,h1,h2,h3,h4⟩
  ·rintro ⟨j,rfl,h1,h2,h3,h4⟩
   exact ⟨⟨⟨h1,h2⟩,h3⟩,h4⟩
 ·rename_i h
  simp [h]
def WholeAt (d:List Part) (at':Nat) (x:Thing):Prop :=
 ∃ n,0<n∧x.stamp≠0∧x.to=at'+n∧x.data=gE d at' n∧∀ i,i<n→∃ b,d[at'+i]?=some b∧b.stamp=x.stamp∧b.i=i∧b.of=n∧b.ok=true
theorem jk {d:List Part} {at':Nat} {x:Thing} : iZ d at'=some x↔WholeAt d at' x:=by
 unfold iZ WholeAt
 constructor
 ·intro h
  split at h
  ·cases h
  ·rename_i b j
   split at h
   ·rename_i hc
    obtain ⟨h1,h2,h3⟩:=hc
    cases h
    refine ⟨b.of,h2,h1,rfl,rfl,fun i l => ?_⟩
    exact nW.1 (fe.1 h3 i (cU.2 l))
   ·cases h
 ·rintro ⟨n,o,hs,q,hd,r⟩
  obtain ⟨b,j,h1,h2,h3,h4⟩:=r 0 o
  rw [cz] at j
  simp only [j]
  have m:(List.range b.of).all (nV d at' b.stamp b.of)=true:=by
   rw [h1,h3]
   exact fe.2 fun i l=>nW.2 (r i (cU.1 l))
  rw [aD ⟨by rw [h1];exact hs,by rw [h3];exact o,m⟩]
  cases x
  simp only at h1 q hd⊢
  subst q hd
  rw [h1,h3]
theorem l8 {α β:Type} {l:List α} {f g : α→List β} (h:∀ a∈l,f a=g a):l.flatMap f=l.flatMap g:=by
 induction l with
 | nil=>rfl
 | cons a l ih=>rw [cP,cP,h a (by simp),ih fun b d=>h b (aR _ d)]
theorem Aq {d d':List Part} {at' n:Nat} (h:∀ j,at'≤j→j<at'+n→d'[j]?=d[j]?):gE d' at' n=gE d at' n:=by
 unfold gE
 refine l8 fun i b => ?_
 have:=h (at'+i) (by omega) (by have:=cU.1 b;omega)
 simp only [aN,this]
theorem WholeAt.congr {d d':List Part} {at':Nat} {x:Thing} (h:WholeAt d at' x) (hc:∀ j,at'≤j→j<x.to→d'[j]?=d[j]?):WholeAt d' at' x:=by
 obtain ⟨n,b,hs,l,hd,m⟩:=h
 refine ⟨n,b,hs,l,by rw [hd,Aq (fun j h1 h2=>hc j h1 (by omega))],fun i o => ?_⟩
 rw [hc (at'+i) (by omega) (by omega)]
 exact m i o
theorem WholeAt.lt {d:List Part} {at':Nat} {x:Thing} (h:WholeAt d at' x):at'<x.to∧x.to≤d.length:=by
 obtain ⟨n,l,hs,m,hd,i⟩:=h
 obtain ⟨b,j,-⟩:=i (n-1) (by omega)
 have:=(aF.1 j).1
 omega
theorem WholeAt.qV {d:List Part} {at':Nat} {x:Thing} (h:WholeAt d at' x):∃ b∈d,b.stamp=x.stamp:=by
 obtain ⟨n,i,hs,m,hd,j⟩:=h
 obtain ⟨b,l,h1,-⟩:=j 0 i
 exact ⟨b,aV l,h1⟩
theorem WholeAt.Jz {d:List Part} {at':Nat} {x y:Thing} (h:WholeAt d at' x) (k:WholeAt d at' y):x=y:=by
 have:=(jk.2 h).symm.trans (jk.2 k)
 exact Option.some.inj this
structure nd (d d':List Part) (at':Nat) (ps:List Part):Prop where
 len:d'.length=d.length
 get:∀ j,d'[j]?=d[j]?∨(at'≤j∧j<at'+ps.length∧d'[j]?=ps[j-at']?)
def lD (d':List Part) (at':Nat) (ps:List Part):Prop:=∀ i,i<ps.length→d'[at'+i]?=ps[i]?
structure oO (s:Nat) (ps:List Part) (data:List UInt8):Prop where
 pos:0<ps.length
 get:∀ (i:Nat) (p:Part),ps[i]?=some p→p.stamp=s∧p.i=i∧p.of=ps.length∧p.ok=true
 data:data=ps.flatMap (·.data)
theorem nd.off {d d':List Part} {at':Nat} {ps:List Part} (h:nd d d' at' ps) {j:Nat} (b:j<at'∨at'+ps.length≤j):d'[j]?=d[j]?:=by
 rcases h.get j with e | ⟨h1,h2,-⟩
 ·exact e
 ·omega
theorem vZ (ps:List Part):ps.flatMap (·.data)=(List.range ps.length).flatMap fun i=>(ps.getD i default).data:=by
 induction ps with
 | nil=>rfl
 | cons p ps ih =>
  rw [cP,ih,ar,List.range_succ_eq_map,cP,List.flatMap_map]
  rfl
theorem rV {d':List Part} {at' s:Nat} {ps:List Part} {data:List UInt8} (d:oO s ps data) (hs:s≠0) (j:lD d' at' ps):WholeAt d' at' ⟨s,data,at'+ps.length⟩:=by
 refine ⟨ps.length,d.pos,hs,rfl,?_,fun i b => ?_⟩
 ·rw [d.data,vZ]
  unfold gE
  refine l8 fun i b => ?_
  rw [aN,aN,j i (cU.1 b)]
 ·have l:ps[i]?=some ps[i]:=ay b
  obtain ⟨h1,h2,h3,h4⟩:=d.get i _ l
  exact ⟨ps[i],by rw [j i b,l],h1,h2,h3,h4⟩
theorem mV {d d':List Part} {at' s:Nat} {ps:List Part} {data:List UInt8} (hm:nd d d' at' ps) (B:oO s ps data) (C:∀ b∈d,b.stamp<s) {i:Nat} {x:Thing} (h:WholeAt d' i x) :
  (i=at'∧x=⟨s,data,at'+ps.length⟩∧lD d' at' ps)∨(WholeAt d i x∧x.stamp<s∧∀ j,i≤j→j<x.to→d'[j]?=d[j]?):=by
 obtain ⟨n,q,hs,D,hd,m⟩:=h
 have o:∀ (j:Nat) (b:Part),at'≤j→j<at'+ps.length→d'[j]?=ps[j-at']?→d'[j]?=some b→b.stamp=s∧b.i=j-at'∧b.of=ps.length:=by
  intro j b _ _ h3 h4
  rw [h4] at h3
  obtain ⟨h1,h2,h3,-⟩:=B.get _ _ h3.symm
  exact ⟨h1,h2,h3⟩
 have hold:∀ (j:Nat) (b:Part),d'[j]?=d[j]?→d'[j]?=some b→b.stamp<s:=fun j b h1 h2=>C b (aV (h1.symm.trans h2))
 by_cases E:x.stamp=s
 ·left
  have key:∀ k,k<n→at'≤i+k∧i+k<at'+ps.length∧d'[i+k]?=ps[i+k-at']?∧k=i+k-at'∧n=ps.length:=by
   intro k hk
   obtain ⟨b,l,h1,h2,h3,h4⟩:=m k hk
   rcases hm.get (i+k) with e | ⟨r,u,y⟩
   ·have:=hold _ _ e l
    omega
   ·obtain ⟨g1,g2,g3⟩:=o _ _ r u y l
    exact ⟨r,u,y,by omega,by omega⟩
  obtain ⟨J,M,N,O,I⟩:=key 0 q
  have F:i=at':=by omega
  subst F I
  have G:lD d' i ps:=fun k hk=>by
   obtain ⟨-,-,e,-,-⟩:=key k hk
   rw [e,Nat.add_sub_cancel_left]
  refine ⟨rfl,?_,G⟩
  have:=rV B (by omega:s≠0) G
  exact WholeAt.Jz ⟨_,q,hs,D,hd,m⟩ this
 ·right
  have key:∀ j,i≤j→j<x.to→d'[j]?=d[j]?:=by
   intro j h1 h2
   obtain ⟨b,l,g1,-⟩:=m (j-i) (by omega)
   rw [show i+(j-i)=j by omega] at l
   rcases hm.get j with e | ⟨r,u,y⟩
   ·exact e
   ·exact absurd ((g1.symm).trans (o _ _ r u y l).1) E
  refine ⟨WholeAt.congr ⟨n,q,hs,D,hd,m⟩ fun j h1 h2=>(key j h1 h2).symm,?_,key⟩
  obtain ⟨b,l,g1,-⟩:=m 0 q
  rw [←g1]
  exact hold _ _ (key (i+0) (by omega) (by omega)) l
theorem nd.take {d d':List Part} {at':Nat} {ps:List Part} (h:nd d d' at' ps) (m:Nat):nd (d.take m) (d'.take m) at' ps:=by
 refine ⟨by rw [az,az,h.len],fun j => ?_⟩
 by_cases b:j<m
 ·rw [bp b,bp b]
  exact h.get j
 ·left
  rw [dm (by rw [az];omega),dm (by rw [az];omega)]
end Go.Proofs.YtkkfmkhbdoeglabGreatDoor
namespace Go.Proofs.YtkkfmkhbdoeglabGreatDoor
section
variable {T O:Type} (decS:List UInt8→Option (Nat×T)) (decD:List UInt8→Option (Nat×O)) (app:T→O→T)
def mj (d:List Part) (p:Nat) (acc:Nat×Nat×Nat×T) (s:Nat):Nat×Nat×Nat×T:=match iZ (d.take (2*p)) (s*p) with
 | some x=>if acc.1<x.stamp then (match decS x.data with
  | some (v,t)=>(x.stamp,s,v,t)
  | none=>acc) else acc
 | none=>acc
def tP (d:List Part) (p:Nat) (t0:T):Nat×Nat×Nat×T:=mj decS d p (mj decS d p (0,0,0,t0) 0) 1
def jx (d:List Part) (ver:Nat) (acc:Option (Nat×Nat×O)) (i:Nat):Option (Nat×Nat×O):=match iZ d i with
 | some x=>(match decD x.data with
  | some (v,o)=>if v=ver∧(acc.elim 0 (·.1))<x.stamp then some (x.stamp,x.to,o) else acc
  | none=>acc)
 | none=>acc
def yw (d:List Part) (l:List Nat) (ver:Nat):Option (Nat×Nat×O):=l.foldl (jx decD d ver) none
def iF (d:List Part) (p:Nat):List Nat:=List.range' (2*p) (d.length-2*p)
def kA (pick:Nat→Option (Nat×Nat×O)):Nat→Nat→Nat→T→Nat→Nat×T×Nat
 | 0,_,v,t,next=>(v,t,next)
 | f+1,b,v,t,next=>match pick (v+1) with
  | some (st,to,o)=>if st<b then (v,t,next) else kA pick f st (v+1) (app t o) to
  | none=>(v,t,next)
inductive Chain (d:List Part):Nat→Nat→T→Nat→List (Nat×Thing)→Nat→Nat→T→Nat→Prop
 | nil (s v:Nat) (t:T) (pos:Nat):Chain d s v t pos [] s v t pos
 | cons {s v pos s' v' pos':Nat} {t t':T} {l:List (Nat×Thing)} (x:Thing) (o:O) (hw:WholeAt d pos x) (hd:decD x.data=some (v+1,o)) (hs:s<x.stamp)
   (h:Chain d x.stamp (v+1) (app t o) x.to l s' v' t' pos'):Chain d s v t pos ((pos,x)::l) s' v' t' pos'
def p6 (d:List Part) (p slot b v0:Nat) (i t0:T):Prop :=
 (b=0∧v0=0∧i=t0∧slot=0∧∀ s x,s<2→¬WholeAt (d.take (2*p)) (s*p) x)∨
 (slot<2∧(∃ x,WholeAt (d.take (2*p)) (slot*p) x∧x.stamp=b∧decS x.data=some (v0,i)∧x.to≤slot*p+p)∧∀ y,WholeAt (d.take (2*p)) ((1-slot)*p) y→y.stamp<b)
def DiskInv (t0:T) (d:List Part) (p slot v:Nat) (t:T) (next:Nat):Prop :=
 ∃ b v0 j l m,p6 decS d p slot b v0 j t0∧Chain decD app d b v0 j (2*p) l m v t next∧∀ i x,2*p≤i→WholeAt d i x→(i,x)∈l∨x.stamp<b
variable {decS decD app}
theorem Chain.pos {d:List Part} {s v pos s' v' pos':Nat} {t t':T} {l:List (Nat×Thing)} (h:Chain decD app d s v t pos l s' v' t' pos'):pos≤pos'∧s≤s'∧v'=v+l.length∧∀ y∈l,pos≤y.1∧y.2.to≤pos'∧s<y.2.stamp∧y.2.stamp≤s'∧WholeAt d y.1 y.2:=by
 induction h with
 | nil s v t pos=>exact ⟨af _,af _,rfl,fun y b=>by cases b⟩
 | cons x o hw hd hs h ih =>
  obtain ⟨h1,h2,h3,h4⟩:=ih
  have:=hw.lt
  refine ⟨by omega,by omega,by rw [h3,ar];omega,fun y b => ?_⟩
  rcases aP.1 b with rfl | b
  ·exact ⟨af _,h1,hs,h2,hw⟩
  ·obtain ⟨g1,g2,g3,g4,g5⟩:=h4 y b
   exact ⟨by omega,g2,by omega,g4,g5⟩
theorem Chain.congr {d d':List Part} {s v pos s' v' pos':Nat} {t t':T} {l:List (Nat×Thing)} (h:Chain decD app d s v t pos l s' v' t' pos') (hc:∀ j,pos≤j→j<pos'→d'[j]?=d[j]?):Chain decD app d' s v t pos l s' v' t' pos':=by
 induction h with
 | nil s v t pos=>exact .nil s v t pos
 | cons x o hw hd hs h ih =>
  have:=hw.lt
  have:=h.pos.1
  exact .cons x o (hw.congr fun j h1 h2=>hc j h1 (by omega)) hd hs (ih fun j h1 h2=>hc j (by omega) h2)
theorem Chain.snoc {d:List Part} {s v pos s' v' pos':Nat} {t t':T} {l:List (Nat×Thing)} (h:Chain decD app d s v t pos l s' v' t' pos') (x:Thing) (o:O) (hw:WholeAt d pos' x) (hd:decD x.data=some (v'+1,o)) (hs:s'<x.stamp) :
  Chain decD app d s v t pos (l++[(pos',x)]) x.stamp (v'+1) (app t' o) x.to:=by
 induction h with
 | nil s v t pos=>exact .cons x o hw hd hs (.nil _ _ _ _)
 | cons y m b i j h ih=>exact .cons y m b i j (ih hw hd hs)
theorem qT {d:List Part} {ver:Nat} : ∀ (l:List Nat) (acc:Option (Nat×Nat×O)),
  (∀ r,l.foldl (jx decD d ver) acc=some r→acc=some r∨∃ i∈l,∃ x o,WholeAt d i x∧decD x.data=some (ver,o)∧r=(x.stamp,x.to,o))∧
  (∀ i∈l,∀ x o,WholeAt d i x→decD x.data=some (ver,o)→∃ r,l.foldl (jx decD d ver) acc=some r∧x.stamp≤r.1)∧
  (∀ r,acc=some r→∃ b,l.foldl (jx decD d ver) acc=some b∧r.1≤b.1)
 | [],acc=>⟨fun r h => .inl h,fun i h=>(by cases h),fun r h=>⟨r,h,af _⟩⟩
 | i::l,acc=>by
  obtain ⟨h1,h2,h3⟩:=qT l (jx decD d ver acc i)
  have s:jx decD d ver acc i=acc∨∃ x o,WholeAt d i x∧decD x.data=some (ver,o)∧jx decD d ver acc i=some (x.stamp,x.to,o)∧acc.elim 0 (·.1)<x.stamp:=by
   unfold jx
   split
   ·rename_i x J
    split
    ·rename_i v o B
     split
     ·rename_i hc
      obtain ⟨rfl,hc⟩:=hc
      exact .inr ⟨x,o,jk.1 J,B,rfl,hc⟩
     ·exact .inl rfl
    ·exact .inl rfl
   ·exact .inl rfl
  have G:∀ r,acc=some r→∃ b,jx decD d ver acc i=some b∧r.1≤b.1:=by
   intro r m
   rcases s with e | ⟨x,o,-,-,e,D⟩
   ·exact ⟨r,e.trans m,af _⟩
   ·exact ⟨_,e,by rw [m] at D;exact Nat.le_of_lt D⟩
  rw [eL]
  refine ⟨fun r m => ?_,fun j u x o hw B => ?_,fun r m => ?_⟩
  ·rcases h1 r m with e | ⟨j,u,x,o,g1,g2,g3⟩
   ·rcases s with E | ⟨x,o,g1,g2,E,-⟩
    ·exact .inl (E.symm.trans e)
    ·refine .inr ⟨i,by simp,x,o,g1,g2,?_⟩
     rw [E] at e
     exact (Option.some.inj e).symm
   ·exact .inr ⟨j,aR _ u,x,o,g1,g2,g3⟩
  ·rcases aP.1 u with rfl | u
   ·have:∃ r,jx decD d ver acc j=some r∧x.stamp≤r.1:=by
     unfold jx
     rw [jk.2 hw]
     simp only [B,true_and]
     split
     ·exact ⟨_,rfl,af _⟩
     ·rename_i C
      cases acc with
      | none =>
       obtain ⟨n,-,M,-⟩:=hw
       simp at C
       exact absurd C M
      | some r=>exact ⟨r,rfl,by simp at C;exact C⟩
    obtain ⟨r,m,hle⟩:=this
    obtain ⟨b,y,q⟩:=h3 r m
    exact ⟨b,y,aH hle q⟩
   ·exact h2 j u x o hw B
  ·obtain ⟨b,y,hle⟩:=G r m
   obtain ⟨I,F,q⟩:=h3 b y
   exact ⟨I,F,aH hle q⟩
theorem CW {d:List Part} {p i:Nat} {x:Thing} (b:2*p≤i) (h:WholeAt d i x):i∈iF d p:=by
 have:=h.lt
 unfold iF
 rw [List.mem_range'_1]
 omega
theorem yy {d:List Part} {p i:Nat} (h:i∈iF d p):2*p≤i:=by
 unfold iF at h
 rw [List.mem_range'_1] at h
 exact h.1
theorem Chain.ver {d:List Part} {s v pos s' v' pos':Nat} {t t':T} {l:List (Nat×Thing)} (h:Chain decD app d s v t pos l s' v' t' pos'):∀ (y:Nat×Thing),y∈l→∃ k o,v<k∧k≤v'∧decD y.2.data=some (k,o):=by
 induction h with
 | nil s v t pos=>exact fun y b=>by cases b
 | cons x o hw hd hs h ih =>
  have h3:=h.pos.2.2.1
  intro y b
  rcases aP.1 b with rfl | b
  ·exact ⟨_,o,Nat.lt_succ_self _,by omega,hd⟩
  ·obtain ⟨k,i,g1,g2,g3⟩:=ih y b
   exact ⟨k,i,by omega,g2,g3⟩
theorem Ds {d:List Part} {p slot r v0:Nat} {m t0:T} (h:p6 decS d p slot r v0 m t0):tP decS d p t0=(r,slot,v0,m):=by
 have o:∀ s acc,(∀ x,¬WholeAt (d.take (2*p)) (s*p) x)→mj decS d p acc s=acc:=fun s acc b=>by
  unfold mj
  split
  ·rename_i x i
   exact absurd (jk.1 i) (b x)
  ·rfl
 have j:∀ s acc x v t,WholeAt (d.take (2*p)) (s*p) x→acc.1<x.stamp→decS x.data=some (v,t)→mj decS d p acc s=(x.stamp,s,v,t):=fun s acc x v t hw hl hd=>by
  unfold mj
  rw [jk.2 hw]
  simp only [hl,hd,dM]
 have l:∀ s (acc:Nat×Nat×Nat×T),(∀ y,WholeAt (d.take (2*p)) (s*p) y→y.stamp<acc.1)→mj decS d p acc s=acc:=fun s acc b=>by
  unfold mj
  split
  ·rename_i x i
   rw [au (by have:=b x (jk.1 i);omega)]
  ·rfl
 have hle:∀ s (acc:Nat×Nat×Nat×T),(mj decS d p acc s).1=acc.1∨∃ y,WholeAt (d.take (2*p)) (s*p) y∧(mj decS d p acc s).1=y.stamp:=fun s acc=>by
  unfold mj
  split
  ·rename_i x i
   split
   ·split
    ·exact .inr ⟨x,jk.1 i,rfl⟩
    ·exact .inl rfl
   ·exact .inl rfl
  ·exact .inl rfl
 unfold tP
 rcases h with ⟨rfl,rfl,rfl,rfl,b⟩ | ⟨hs,⟨x,hw,rfl,hd,-⟩,u⟩
 ·rw [o 0 _ (fun x=>b 0 x (by omega)),o 1 _ (fun x=>b 1 x (by omega))]
 ·have B:x.stamp≠0:=hw.elim fun n h=>h.2.1
  obtain rfl | rfl:slot=0∨slot=1:=by omega
  ·rw [j 0 _ x v0 m hw (by show 0<x.stamp;omega) hd,l 1 _ (fun y q=>u y q)]
  ·refine j 1 _ x v0 m hw ?_ hd
   rcases hle 0 (0,0,0,t0) with e | ⟨y,q,e⟩
   ·rw [e];show 0<x.stamp;omega
   ·rw [e];exact u y q
theorem Ai {d:List Part} {p:Nat} {L:List (Nat×Thing)} {D:Nat} (b:∀ i x,2*p≤i→WholeAt d i x→(i,x)∈L∨x.stamp<D) (J:∀ y∈L,∀ z∈L,∀ k o B,decD y.2.data=some (k,o)→decD z.2.data=some (k,B)→y=z)
  {s v pos s' v' pos':Nat} {t t':T} {l:List (Nat×Thing)} (h:Chain decD app d s v t pos l s' v' t' pos') (R:D≤s) (M:2*p≤pos) (j:∀ y∈l,y∈L) (m:∀ y∈L,∀ k o,decD y.2.data=some (k,o)→k≤v') (f:Nat) (N:l.length<f) :
  kA app (yw decD d (iF d p)) f s v t pos=(v',t',pos'):=by
 induction h generalizing f with
 | nil s v t pos =>
  cases f with
  | zero=>omega
  | succ f =>
   unfold kA
   split
   ·rename_i st to o E
    rcases (qT (decD:=decD) (iF d p) none).1 _ E with e | ⟨i,C,x,B,hw,hd,e⟩
    ·cases e
    ·cases e
     rcases b i x (yy C) hw with hm | F
     ·have:=m _ hm _ _ hd
      omega
     ·rw [aD (by omega)]
   ·rfl
 | @cons s v pos s' v' pos' t t' l x o hw hd hs h ih =>
  cases f with
  | zero=>omega
  | succ f =>
   have F:=hw.lt
   have u:yw decD d (iF d p) (v+1)=some (x.stamp,x.to,o):=by
    obtain ⟨r,G,hle⟩:=(qT (decD:=decD) (d:=d) (ver:=v+1) (iF d p) none).2.1 pos (CW M hw) x o hw hd
    rcases (qT (decD:=decD) (iF d p) none).1 _ G with e | ⟨i,C,x',B,I,q,e⟩
    ·cases e
    ·subst e
     rcases b i x' (yy C) I with hm | O
     ·have:=J _ (j _ bV) _ hm _ _ _ hd q
      cases this
      rw [hd] at q
      cases q
      exact G
     ·simp only at hle
      omega
   unfold kA
   simp only [u]
   rw [au (by omega)]
   exact ih (by omega) (by omega) (fun y Q=>j y (aR _ Q)) m f (by simp at N;omega)
theorem Chain.inj {d:List Part} {s v pos s' v' pos':Nat} {t t':T} {l:List (Nat×Thing)} (h:Chain decD app d s v t pos l s' v' t' pos'):∀ y∈l,∀ z∈l,∀ k o j,decD y.2.data=some (k,o)→decD z.2.data=some (k,j)→y=z:=by
 induction h with
 | nil s v t pos=>exact fun y m=>by cases m
 | @cons s v pos s' v' pos' t t' l x o hw hd hs h ih =>
  intro y m z q k r u h1 h2
  rcases aP.1 m with rfl | b <;> rcases aP.1 q with rfl | i
  ·rfl
  ·obtain ⟨B,j,g1,g2,g3⟩:=h.ver z i
   rw [g3] at h2
   rw [hd] at h1
   cases h1;cases h2
   omega
  ·obtain ⟨B,j,g1,g2,g3⟩:=h.ver y b
   rw [g3] at h1
   rw [hd] at h2
   cases h1;cases h2
   omega
  ·exact ih y b z i k r u h1 h2
theorem DiskInv.found {t0:T} {d:List Part} {p slot v:Nat} {t:T} {next:Nat} (h:DiskInv decS decD app t0 d p slot v t next) :
  ∃ b v0 i,tP decS d p t0=(b,slot,v0,i)∧∀ f,d.length<f→kA app (yw decD d (iF d p)) f b v0 i (2*p)=(v,t,next):=by
 obtain ⟨b,v0,i,l,B,q,hc,j⟩:=h
 refine ⟨b,v0,i,Ds q,fun f r=>Ai j hc.inj hc (af _) (af _) (fun _ h=>h) (fun y u k o hd => ?_) f ?_⟩
 ·obtain ⟨C,D,-,g2,g3⟩:=hc.ver y u
  rw [hd] at g3
  cases g3
  exact g2
 ·refine Nat.lt_of_le_of_lt ?_ r
  have key:∀ {s v pos s' v' pos':Nat} {t t':T} {l:List (Nat×Thing)},Chain decD app d s v t pos l s' v' t' pos'→l.length+pos≤pos'∧(l=[]∨pos'≤d.length):=by
   intro s v pos s' v' pos' t t' l h
   induction h with
   | nil=>exact ⟨by simp,.inl rfl⟩
   | cons x o hw hd hs h ih =>
    have:=hw.lt
    refine ⟨by rw [ar];omega,.inr ?_⟩
    rcases ih.2 with rfl | e
    ·cases h
     exact this.2
    ·exact e
  obtain ⟨E,m⟩:=key hc
  rcases m with rfl | m
  ·exact aM _
  ·omega
theorem DiskInv.zt {t0:T} {d:List Part} {p slot v:Nat} {t:T} {next:Nat} (h:DiskInv decS decD app t0 d p slot v t next):2*p≤next∧slot<2:=by
 obtain ⟨i,v0,j,l,m,b,hc,-⟩:=h
 refine ⟨hc.pos.1,?_⟩
 rcases b with ⟨-,-,-,rfl,-⟩ | ⟨h,-⟩
 ·omega
 ·exact h
theorem p6.stamp {d:List Part} {p slot i v0:Nat} {l t0:T} (h:p6 decS d p slot i v0 l t0) {s:Nat} (j:∀ b∈d,b.stamp<s) (hs:0<s):i<s:=by
 rcases h with ⟨rfl,-⟩ | ⟨-,⟨x,hw,rfl,-,-⟩,-⟩
 ·exact hs
 ·obtain ⟨b,m,e⟩:=hw.qV
  rw [←e]
  exact j b (cZ m)
theorem p6.congr {d d':List Part} {p slot b v0:Nat} {i t0:T} (h:p6 decS d p slot b v0 i t0) (e:d'.take (2*p)=d.take (2*p)):p6 decS d' p slot b v0 i t0:=by
 unfold p6 at h⊢
 rw [e]
 exact h
theorem nd.If {d d':List Part} {at':Nat} {ps:List Part} (h:nd d d' at' ps) {m:Nat} (hm:m≤at'):d'.take m=d.take m:=by
 refine List.ext_getElem? fun j => ?_
 by_cases b:j<m
 ·rw [bp b,bp b,h.off (.inl (by omega))]
 ·rw [dm (by rw [az];omega),dm (by rw [az];omega)]
theorem DiskInv.delta {t0:T} {d d':List Part} {p slot v:Nat} {t:T} {next s:Nat} {ps:List Part} {data:List UInt8} {o:O} (h:DiskInv decS decD app t0 d p slot v t next) (hm:nd d d' next ps) (C:oO s ps data) (m:∀ b∈d,b.stamp<s) (hs:0<s)
  (hd:decD data=some (v+1,o)):(lD d' next ps→DiskInv decS decD app t0 d' p slot (v+1) (app t o) (next+ps.length))∧(¬lD d' next ps→DiskInv decS decD app t0 d' p slot v t next):=by
 have G:=h.zt.1
 obtain ⟨I,v0,J,l,M,N,hc,q⟩:=h
 have u:=N.congr (hm.If G)
 have B:=hc.congr (d':=d') fun j h1 h2=>hm.off (.inl h2)
 have Q:=N.stamp m hs
 have R:M<s:=by
  have V:=hc.pos
  rcases List.eq_nil_or_concat l with rfl | ⟨W,y,rfl⟩
  ·cases hc;exact Q
  ·have:∀ {s v pos s' v' pos':Nat} {t t':T} {l:List (Nat×Thing)},Chain decD app d s v t pos l s' v' t' pos'→l≠[]→∃ y∈l,y.2.stamp=s':=by
    intro s v pos s' v' pos' t t' l h
    induction h with
    | nil=>exact fun h=>absurd rfl h
    | @cons s v pos s' v' pos' t t' l x o hw hd hs h ih =>
     intro _
     cases l with
     | nil =>
      cases h
      exact ⟨_,bV,rfl⟩
     | cons z l =>
      obtain ⟨y,D,e⟩:=ih (by simp)
      exact ⟨y,aR _ D,e⟩
   obtain ⟨y,D,e⟩:=this hc (by simp)
   obtain ⟨-,-,-,-,hw⟩:=V.2.2.2 y D
   obtain ⟨b,S,X⟩:=hw.qV
   have:=m b S
   omega
 refine ⟨fun E => ?_,fun E => ?_⟩
 ·refine ⟨I,v0,J,_,_,u,B.snoc ⟨s,data,next+ps.length⟩ o (rV C (by omega) E) hd R,fun i x F hw => ?_⟩
  rcases mV hm C m hw with ⟨rfl,rfl,-⟩ | ⟨r,-,-⟩
  ·exact .inl (by simp)
  ·exact (q i x F r).imp (fun h=>dR _ h) id
 ·refine ⟨I,v0,J,l,M,u,B,fun i x F hw => ?_⟩
  rcases mV hm C m hw with ⟨rfl,rfl,U⟩ | ⟨r,-,-⟩
  ·exact absurd U E
  ·exact q i x F r
theorem DiskInv.state {t0:T} {d d':List Part} {p slot v:Nat} {t:T} {next s:Nat} {ps:List Part} {data:List UInt8} {v':Nat} {t':T} (h:DiskInv decS decD app t0 d p slot v t next) (hm:nd d d' ((1-slot)*p) ps) (r:oO s ps data) (hp:ps.length≤p) (hl:2*p≤d.length)
  (u:∀ b∈d,b.stamp<s) (hs:0<s) (hd:decS data=some (v',t')):(lD d' ((1-slot)*p) ps→DiskInv decS decD app t0 d' p (1-slot) v' t' (2*p))∧(¬lD d' ((1-slot)*p) ps→DiskInv decS decD app t0 d' p slot v t next):=by
 have am:=h.zt.2
 obtain ⟨X,v0,Y,l,Z,F,hc,M⟩:=h
 have hle:(1-slot)*p+p≤2*p:=by
  obtain rfl | rfl:slot=0∨slot=1:=by omega
  ·omega
  ·omega
 have B:∀ j,2*p≤j→d'[j]?=d[j]?:=fun j hj=>hm.off (.inr (by omega))
 have Q:=hc.congr (d':=d') fun j h1 h2=>B j h1
 have J:∀ i x,2*p≤i→WholeAt d' i x→WholeAt d i x:=fun i x m hw=>hw.congr fun j h1 _=>(B j (by omega)).symm
 have ap:=F.stamp u hs
 have o:∀ b∈d.take (2*p),b.stamp<s:=fun b F=>u b (cZ F)
 have C:=hm.take (2*p)
 have W:slot*p+p≤(1-slot)*p∨(1-slot)*p+p≤slot*p∨p=0:=by
  obtain rfl | rfl:slot=0∨slot=1:=by omega
  ·left;omega
  ·right;left;omega
 have av:=r.pos
 have G:∀ j,slot*p≤j→j<slot*p+p→d'[j]?=d[j]?:=fun j h1 h2=>hm.off (by omega)
 refine ⟨fun N => ?_,fun N => ?_⟩
 ·have q:lD (d'.take (2*p)) ((1-slot)*p) ps:=fun i m=>by
   rw [bp (by omega)]
   exact N i m
  have O:=rV r (by omega:s≠0) q
  refine ⟨s,v',t',[],s,.inr ⟨by omega,⟨_,O,rfl,hd,by show _+ps.length≤_;omega⟩,fun y I => ?_⟩,.nil _ _ _ _,fun i x m hw => .inr ?_⟩
  ·rw [show 1-(1-slot)=slot by omega] at I
   rcases mV C r o I with ⟨e,-,-⟩ | ⟨-,R,-⟩
   ·omega
   ·exact R
  ·obtain ⟨b,S,e⟩:=(J i x m hw).qV
   rw [←e]
   exact u b S
 ·have q:¬lD (d'.take (2*p)) ((1-slot)*p) ps:=fun h=>N fun i m=>by
   have:=h i m
   rw [bp (by omega)] at this
   exact this
  refine ⟨X,v0,Y,l,Z,?_,Q,fun i x m hw=>M i x m (J i x m hw)⟩
  rcases F with ⟨h1,h2,h3,h4,U⟩ | ⟨h1,⟨x,hw,e1,e2,e3⟩,ho⟩
  ·refine .inl ⟨h1,h2,h3,h4,fun s' x V hw => ?_⟩
   rcases mV C r o hw with ⟨-,-,D⟩ | ⟨E,-,-⟩
   ·exact q D
   ·exact U s' x V E
  ·refine .inr ⟨h1,⟨x,?_,e1,e2,e3⟩,fun y I => ?_⟩
   ·refine hw.congr fun j g1 g2 => ?_
    have:=hw.lt.2
    rw [az] at this
    rw [bp (by omega),bp (by omega)]
    exact G j g1 (by omega)
   ·rcases mV C r o I with ⟨-,-,D⟩ | ⟨E,-,-⟩
    ·exact absurd D q
    ·exact ho y E
end
end Go.Proofs.YtkkfmkhbdoeglabGreatDoor
