/- A part of what is proved here: lemmas and contracts of single functions. No condition but those that each names. -/
import Derived.Test.YtkkfmkhbdoeglabGreatDoorG00
import Derived.Deep.CutBlock
import Derived.Test.YtkkfmkhbdoeglabGreatDoorG06
import Derived.Test.YtkkfmkhbdoeglabGreatDoorG15
import Derived.Test.YtkkfmkhbdoeglabGreatDoorG16
import Derived.Test.YtkkfmkhbdoeglabGreatDoorG17
namespace Go.Proofs.YtkkfmkhbdoeglabGreatDoor
open Go.RowKit
def Cu.ent (c:Cu) (last:K):Cu×Option E :=
 let a:=c.take 1
 let T:Int:=((a.2.headD 0).toNat:Int)
 let c1:=a.1.jC (decide (T<3)) 6
 match c1.f with
 | some _=>(c1,none)
 | none =>
  let b:=c1.take (fS T)
  let c2:=(b.1.jC (iz T b.2) 7).jC (decide (oQ last (T,b.2)<0)) 14
  let d:=c2.take (gw T)
  (d.1.jC (gL T d.2) 9,some ((T,b.2),d.2))
def iC:Nat→Cu→K→List E→Cu×List E
 | 0,c,_,S=>(c,S)
 | n+1,c,last,S =>
  match c.f with
  | some _=>(c,S)
  | none =>
   match c.ent last with
   | (c',none)=>(c',S)
   | (c',some x)=>iC n c' x.1 (ke x.1 x.2 S)
def iG (l:List UInt8):(Nat×List E)⊕(Nat×Nat) :=
 let a:=Cu.take ⟨l,0,0,none⟩ 8
 let b:=(a.1.jC (isVersionB (iP a.2)) 4).take 2
 let L:=iC ((b.2.getD 0 0).toNat*256+(b.2.getD 1 0).toNat) b.1 (-1,[]) []
 match L.1.ended.f with
 | some f => .inr f
 | none => .inl (iP a.2,L.2)
theorem rR {c:Cu} {ok:Bool} {k:Nat} (h:(c.jC ok k).f=none):c.f=none∧ok=true:=by
 obtain ⟨l,a,t,f⟩:=c
 cases f with
 | some f=>simp [Cu.jC] at h
 | none=>cases ok <;> simp [Cu.jC] at h⊢
theorem GR {c:Cu} {n:Nat} (h:(c.take n).1.f=none):c.f=none:=by
 obtain ⟨l,a,t,f⟩:=c
 cases f with
 | some f=>simp [Cu.take] at h
 | none=>rfl
theorem q9 {n:Nat} {c:Cu} {last:K} {S:List E} {f:Nat×Nat} (h:c.f=some f):(iC n c last S).1=c:=by
 cases n with
 | zero=>rfl
 | succ n=>unfold iC;rw [h]
theorem pf {n:Nat} {c c':Cu} {last:K} {S:List E} {x:E} (b:c.f=none) (h:c.ent last=(c',some x)):iC (n+1) c last S=iC n c' x.1 (ke x.1 x.2 S):=by
 conv=>lhs;unfold iC
 rw [b,h]
theorem q8 {n:Nat} {c c':Cu} {last:K} {S:List E} (b:c.f=none) (h:c.ent last=(c',none)):iC (n+1) c last S=(c',S):=by
 conv=>lhs;unfold iC
 rw [b,h]
theorem Es {c:Cu} {last:K} {t:UInt8} {f:Nat×Nat} (b:(c.take 1).2=[t]) (d:((c.take 1).1.jC (decide ((t.toNat:Int)<3)) 6).f=some f):c.ent last=((c.take 1).1.jC (decide ((t.toNat:Int)<3)) 6,none):=by
 unfold Cu.ent
 simp only [b,fx,d]
theorem IG {c c1:Cu} {last:K} {t:UInt8} (i:(c.take 1).2=[t]) (h1:c1=(c.take 1).1.jC (decide ((t.toNat:Int)<3)) 6) (j:c1.f=none) {T:Int} (l:T=t.toNat) {b d:Cu×List UInt8} {c2:Cu} (m:b=c1.take (fS T)) (h2:c2=(b.1.jC (iz T b.2) 7).jC (decide (oQ last (T,b.2)<0)) 14) (hd:d=c2.take (gw T)) :
  c.ent last=(d.1.jC (gL T d.2) 9,some ((T,b.2),d.2)):=by
 subst hd h2 m l
 unfold Cu.ent
 simp only [i,fx,←h1,j]
theorem Dn {w:World} (h:ShapesVar w) (t:UInt8) (b:t.toNat<3):w.cell? ⟨1,t.toNat*2,none⟩=some (.int .i64 (fS (t.toNat:Int))):=by
 have:t.toNat=0∨t.toNat=1∨t.toNat=2:=by omega
 rcases this with e | e | e <;> rw [e]
 ·exact h.c0
 ·exact h.c2
 ·exact h.c4
theorem wX {w:World} (h:ShapesVar w) (t:UInt8) (b:t.toNat<3):w.cell? ⟨1,t.toNat*2+1,none⟩=some (.int .i64 (gw (t.toNat:Int))):=by
 have:t.toNat=0∨t.toNat=1∨t.toNat=2:=by omega
 rcases this with e | e | e <;> rw [e]
 ·exact h.c1
 ·exact h.c3
 ·exact h.c5
theorem CI (w:World) (q:Nat) (os:Array Obj):Below w.heap.size w (Sort.grow (w.drewN q) os):=by
 refine ⟨rfl,rfl,rfl,?_,fun k hk => ?_⟩
 ·show w.heap.size≤(w.heap++os).size
  rw [Array.size_append];omega
 ·show (w.heap++os)[k]?=_
  exact eQ hk
theorem tE (T:Int):fS T≤100:=by unfold fS;split <;> (try split) <;> omega
theorem CQ (T:Int):1≤fS T:=by unfold fS;split <;> (try split) <;> omega
theorem tT (T:Int):gw T≤100:=by unfold gw;split <;> (try split) <;> omega
theorem Dy (T:Int):1≤gw T:=by unfold gw;split <;> (try split) <;> omega
structure kW (w5:World) (base c r Bl:Nat) (cu:Cu) (last:K) (S:List E) (W:World):Prop where
 cur:CurAt W base c cu
 tab:TabAt W r S
 cell:W.cell? ⟨r+1,0,none⟩=some (.map (some r))
 box:W.heap[Bl]?=some (.cells #[.int .i64 last.1,.string ⟨last.2.toArray⟩] 103 (0,0))
 shp:ShapesVar W
 ext:Ext (fun i=>i=c∨i=r∨i=Bl) w5 W
 geo:2≤base∧base≤c∧c<r∧r+1<Bl∧Bl<w5.heap.size
section
variable {w5 W W':World} {base c r Bl:Nat} {cu cu':Cu} {last:K} {S S':List E}
theorem kW.size (h:kW w5 base c r Bl cu last S W):w5.heap.size≤W.heap.size:=h.ext.size
theorem kW.Ap (h:kW w5 base c r Bl cu last S W) (b:W.grownBy W' (some c)) (hc:CurAt W' base c cu'):kW w5 base c r Bl cu' last S W':=by
 obtain ⟨g1,g2,g3,g4,g5⟩:=h.geo
 have hs:=h.size
 exact ⟨hc,h.tab.gr (b.block r h.tab.lt (fun e=>by cases e;omega)),(aU (a:=⟨r+1,0,none⟩) (b.block (r+1) (by omega) (fun e=>by cases e;omega))).trans h.cell,
  (b.block Bl (by omega) (fun e=>by cases e;omega)).trans h.box,h.shp.grown b (by omega),h.ext.grow b (.inl (.inl rfl)),h.geo⟩
theorem kW.fresh (h:kW w5 base c r Bl cu last S W) (b:Below W.heap.size W W'):kW w5 base c r Bl cu last S W':=by
 obtain ⟨g1,g2,g3,g4,g5⟩:=h.geo
 have hs:=h.size
 exact ⟨h.cur.gr b,h.tab.gr (b.block r h.tab.lt),(b.cell (p:=⟨r+1,0,none⟩) (show r+1<_ by omega)).trans h.cell,(b.block Bl (by omega)).trans h.box,h.shp.new b,h.ext.rT b,h.geo⟩
theorem kW.put (h:kW w5 base c r Bl cu last S W) (b:W.grownBy W' (some r)) (d:TabAt W' r S'):kW w5 base c r Bl cu last S' W':=by
 obtain ⟨g1,g2,g3,g4,g5⟩:=h.geo
 have hs:=h.size
 refine ⟨h.cur.grown b g3 ?_,d,(aU (a:=⟨r+1,0,none⟩) (b.block (r+1) (by omega) (fun e=>by simp at e))).trans h.cell,
  (b.block Bl (by omega) (fun e=>by cases e;omega)).trans h.box,h.shp.grown b (by omega),h.ext.grow b (.inl (.inr (.inl rfl))),h.geo⟩
 obtain ⟨-,L,hm,-⟩:=h.tab
 exact hm.j4
theorem kW.step (h:kW w5 base c r Bl cu last S W) (k:K):kW w5 base c r Bl cu k S ((W.setCell ⟨Bl,0,none⟩ (.int .i64 k.1)).setCell ⟨Bl,1,none⟩ (.string ⟨k.2.toArray⟩)):=by
 obtain ⟨g1,g2,g3,g4,g5⟩:=h.geo
 have hs:=h.size
 have b:W.grownBy ((W.setCell ⟨Bl,0,none⟩ (.int .i64 k.1)).setCell ⟨Bl,1,none⟩ (.string ⟨k.2.toArray⟩)) (some Bl):=gG (grownBy_set (Below.refl _ W) 0 _) 1 _
 exact ⟨h.cur.grown b (by omega) (fun d m e=>by rw [h.box] at e;simp at e),h.tab.gr (b.block r h.tab.lt (fun e=>by cases e;omega)),(aU (a:=⟨r+1,0,none⟩) (b.block (r+1) (by omega) (fun e=>by cases e;omega))).trans h.cell,
  heap_setCell _ _ 1 _ (heap_setCell _ _ 0 _ h.box),h.shp.grown b (by omega),h.ext.grow b (.inl (.inr (.inr rfl))),h.geo⟩
theorem kW.JA (h:kW w5 base c r Bl cu last S W) {B:Nat} {C:Array Value} {T:TypeId} {fz:Nat×Nat} (d:W.heap[B]?=some (.cells C T fz)) (hl:Bl<B) (i:T≠186) (b:W.grownBy W' (some B)) (h5:w5.heap.size≤B):kW w5 base c r Bl cu last S W':=by
 obtain ⟨g1,g2,g3,g4,g5⟩:=h.geo
 have hs:=h.size
 exact ⟨h.cur.grown b (by omega) (fun j m e=>by rw [d] at e;injection e with e;injection e with _ e _;exact i e),h.tab.gr (b.block r h.tab.lt (fun e=>by cases e;omega)),(aU (a:=⟨r+1,0,none⟩) (b.block (r+1) (by omega) (fun e=>by cases e;omega))).trans h.cell,
  (b.block Bl (by omega) (fun e=>by cases e;omega)).trans h.box,h.shp.grown b (by omega),h.ext.grow b (.inr h5),h.geo⟩
theorem kW.boxes (_h:kW w5 base c r Bl cu last S W) {B:Nat} {o:Obj} (b:W.heap[B]?=some o) (hc:c<B) (d:W.grownBy W' (some c)):W'.heap[B]?=some o :=
 (d.block B (fO b) (fun e=>by cases e;omega)).trans b
end
end Go.Proofs.YtkkfmkhbdoeglabGreatDoor
namespace Go.Proofs.YtkkfmkhbdoeglabGreatDoor
open Go.RowKit
def IA (last:Option K) (k:K):Bool:=match last with
 | none=>true
 | some b=>oa b k
def lG (s:List UInt8) (at':Nat) (last:Option K):(E×Nat)⊕(Nat×Nat) :=
 match s.drop at' with
 | [] => .inr (1,at')
 | t::r =>
  if 2<t.toNat then .inr (6,at')
  else if r.length<fS t.toNat then .inr (1,at'+1)
  else if iz t.toNat (r.take (fS t.toNat))=false then .inr (7,at'+1)
  else if (IA last ((t.toNat:Int),r.take (fS t.toNat)))=false then .inr (14,at'+1)
  else if r.length<fS t.toNat+gw t.toNat then .inr (1,at'+1+fS t.toNat)
  else if gL t.toNat ((r.drop (fS t.toNat)).take (gw t.toNat))=false then .inr (9,at'+1+fS t.toNat)
  else .inl ((((t.toNat:Int),r.take (fS t.toNat)),(r.drop (fS t.toNat)).take (gw t.toNat)),at'+1+fS t.toNat+gw t.toNat)
theorem drop1 {l:List UInt8} {q:Nat} {x:UInt8} {r:List UInt8} (h:l.drop q=x::r):l.drop (q+1)=r∧l.length=q+1+r.length∧l[q]?=some x:=by
 have h1:(l.drop q).drop 1=r:=by rw [h];rfl
 rw [cN] at h1
 have h2:=aZ List.length h
 rw [bg,ar] at h2
 refine ⟨h1,by omega,?_⟩
 have h3:(l.drop q)[0]?=some x:=by rw [h];rfl
 rwa [dy,cz] at h3
def jg (s:List UInt8):Nat→Nat→List E→(Nat×List E)⊕(Nat×Nat)
 | 0,at',l => .inl (at',l)
 | n+1,at',l =>
  match lG s at' (l.getLast?.map (·.1)) with
  | .inr f => .inr f
  | .inl (x,q)=>jg s n q (l++[x])
def mx (s:List UInt8):(Nat×List E)⊕(Nat×Nat) :=
 if s.length<8 then .inr (1,0)
 else if isVersionB (iP (s.take 8))=false then .inr (4,0)
 else if s.length<10 then .inr (1,8)
 else match jg s ((s.getD 8 0).toNat*256+(s.getD 9 0).toNat) 10 [] with
  | .inr f => .inr f
  | .inl (q,l)=>if q<s.length then .inr (2,q) else .inl (iP (s.take 8),l)
theorem H8 {S:List E} {k:K} {v:List UInt8} (h:∀ x∈S,oa x.1 k=true):ke k v S=S++[(k,v)]:=by
 unfold ke
 rw [fm.2 h,eI.2 (fun x b=>by rw [lO (h x b)];decide)]
theorem px {s:List UInt8} {at' q:Nat} {last:Option K} {x:E} (h:lG s at' last = .inl (x,q)):at'<q∧q≤s.length∧0≤x.1.1∧x.1.1<3∧iz x.1.1 x.1.2=true∧gL x.1.1 x.2=true∧(∀ k,last=some k→oa k x.1=true):=by
 unfold lG at h
 split at h
 ·cases h
 ·rename_i t r hd
  have hl:=(drop1 hd).2.1
  have key:∀ c:Bool,(∀ k,last=some k→c=oa k ((t.toNat:Int),r.take (fS (t.toNat:Int))))→(if 2<t.toNat then Sum.inr (6,at')
   else if r.length<fS (t.toNat:Int) then .inr (1,at'+1)
   else if iz (t.toNat:Int) (r.take (fS (t.toNat:Int)))=false then .inr (7,at'+1)
   else if c=false then .inr (14,at'+1)
   else if r.length<fS (t.toNat:Int)+gw (t.toNat:Int) then .inr (1,at'+1+fS (t.toNat:Int))
   else if gL (t.toNat:Int) ((r.drop (fS (t.toNat:Int))).take (gw (t.toNat:Int)))=false then .inr (9,at'+1+fS (t.toNat:Int))
   else .inl ((((t.toNat:Int),r.take (fS (t.toNat:Int))),(r.drop (fS (t.toNat:Int))).take (gw (t.toNat:Int))),at'+1+fS (t.toNat:Int)+gw (t.toNat:Int)))=(.inl (x,q):(E×Nat)⊕(Nat×Nat))→
   at'<q∧q≤s.length∧0≤x.1.1∧x.1.1<3∧iz x.1.1 x.1.2=true∧gL x.1.1 x.2=true∧(∀ k,last=some k→oa k x.1=true):=by
   intro c hc h
   split at h
   ·cases h
   split at h
   ·cases h
   split at h
   ·cases h
   split at h
   ·cases h
   split at h
   ·cases h
   split at h
   ·cases h
   rename_i h1 h2 h3 h4 h5 h6
   obtain ⟨b,hq⟩:=Prod.mk.inj (Sum.inl.inj h)
   subst b hq
   exact ⟨by omega,by omega,by simp,by simp only [];omega,by simpa using h3,by simpa using h6,fun k hk=>by rw [←hc k hk];simpa using h4⟩
  cases last with
  | none=>exact key true (fun k hk=>by (cases hk)) h
  | some d=>exact key _ (fun k hk=>by (cases hk;rfl)) h
theorem Cx {s:List UInt8} {at':Nat} {last:Option K} {k p:Nat} (h:lG s at' last = .inr (k,p)) (ha:at'≤s.length):1≤k∧k≤14∧p≤s.length:=by
 unfold lG at h
 split at h
 ·obtain ⟨rfl,rfl⟩:=Prod.mk.inj (Sum.inr.inj h);omega
 ·rename_i t r hd
  have hl:=(drop1 hd).2.1
  split at h
  ·obtain ⟨rfl,rfl⟩:=Prod.mk.inj (Sum.inr.inj h);omega
  split at h
  ·obtain ⟨rfl,rfl⟩:=Prod.mk.inj (Sum.inr.inj h);omega
  split at h
  ·obtain ⟨rfl,rfl⟩:=Prod.mk.inj (Sum.inr.inj h);omega
  split at h
  ·obtain ⟨rfl,rfl⟩:=Prod.mk.inj (Sum.inr.inj h);omega
  split at h
  ·obtain ⟨rfl,rfl⟩:=Prod.mk.inj (Sum.inr.inj h);omega
  split at h
  ·obtain ⟨rfl,rfl⟩:=Prod.mk.inj (Sum.inr.inj h);omega
  cases h
end Go.Proofs.YtkkfmkhbdoeglabGreatDoor
namespace Go.Proofs.YtkkfmkhbdoeglabGreatDoor
open Go.RowKit
theorem Ak (a b:K):decide (oQ a b<0)=oa a b:=by
 unfold oQ oa po p8
 rcases dU a.1 b.1 with h | h | h
 ·simp [h]
 ·have h1:¬a.1<b.1:=by omega
  have h2:¬b.1<a.1:=by omega
  simp only [h1,h2,h]
  simp
  by_cases h3:a.2<b.2
  ·simp [h3]
  ·simp only [h3,df,iff_false]
   split <;> decide
 ·have h1:¬a.1<b.1:=by omega
  have h2:¬a.1=b.1:=by omega
  simp [h,h1,h2]
def Ik (o:Option K) (last:K):Prop:=(o=none∧last=(-1,[]))∨o=some last
theorem FQ (T:Nat) (k:List UInt8):decide (oQ (-1,[]) ((T:Int),k)<0)=true:=by
 rw [Ak]
 simp [oa];omega
theorem Cu.ye (l:List UInt8) (a q:Nat) (last:K) (t:UInt8) (r:List UInt8) (c:Bool) (h:l.drop q=t::r) (hc:decide (oQ last ((t.toNat:Int),r.take (fS (t.toNat:Int)))<0)=c) :
  match (if 2<t.toNat then Sum.inr (6,q)
   else if r.length<fS (t.toNat:Int) then .inr (1,q+1)
   else if iz (t.toNat:Int) (r.take (fS (t.toNat:Int)))=false then .inr (7,q+1)
   else if c=false then .inr (14,q+1)
   else if r.length<fS (t.toNat:Int)+gw (t.toNat:Int) then .inr (1,q+1+fS (t.toNat:Int))
   else if gL (t.toNat:Int) ((r.drop (fS (t.toNat:Int))).take (gw (t.toNat:Int)))=false then .inr (9,q+1+fS (t.toNat:Int))
   else .inl ((((t.toNat:Int),r.take (fS (t.toNat:Int))),(r.drop (fS (t.toNat:Int))).take (gw (t.toNat:Int))),q+1+fS (t.toNat:Int)+gw (t.toNat:Int)):(E×Nat)⊕(Nat×Nat)) with
  | .inr f=>((⟨l,a,q,none⟩:Cu).ent last).1.f=some f
  | .inl (x,i)=>∃ o,(⟨l,a,q,none⟩:Cu).ent last=(⟨l,o,i,none⟩,some x)∧i≤l.length:=by
 obtain ⟨hd,hl,-⟩:=drop1 h
 have s:¬l.length<q+1:=by omega
 simp only [Cu.ent,Cu.ir,s,df,h,bA,cd,fx]
 by_cases h2:2<t.toNat
 ·have h3:¬(t.toNat:Int)<3:=by omega
  rw [aD h2]
  simp [Cu.jj,h3]
 ·have h3:(t.toNat:Int)<3:=by omega
  rw [au h2]
  simp only [Cu.jj,h3,decide_true,dM,Cu.ir,hl]
  by_cases hs:r.length<fS (t.toNat:Int)
  ·have b:q+1+r.length<q+1+fS (t.toNat:Int):=by omega
   simp only [hs,b,dM,Cu.iR,Cu.jV]
  ·have b:¬q+1+r.length<q+1+fS (t.toNat:Int):=by omega
   simp only [hs,b,df,hd,Cu.jj]
   cases hk:iz (t.toNat:Int) (r.take (fS (t.toNat:Int))) with
   | false=>simp [Cu.iR,Cu.jV]
   | true =>
    simp only [dP,df,dM,Cu.jj,hc]
    cases c with
    | false=>simp [Cu.iR,Cu.jV]
    | true =>
     simp only [dP,df,dM,Cu.ir,hl]
     have j:l.drop (q+1+fS (t.toNat:Int))=r.drop (fS (t.toNat:Int)):=by rw [←hd,cN]
     by_cases m:r.length<fS (t.toNat:Int)+gw (t.toNat:Int)
     ·have d:q+1+r.length<q+1+fS (t.toNat:Int)+gw (t.toNat:Int):=by omega
      simp only [m,d,dM,Cu.iR]
     ·have d:¬q+1+r.length<q+1+fS (t.toNat:Int)+gw (t.toNat:Int):=by omega
      simp only [m,d,df,j,Cu.jj]
      cases u:gL (t.toNat:Int) ((r.drop (fS (t.toNat:Int))).take (gw (t.toNat:Int))) with
      | false=>simp
      | true =>
       simp only [dP,df,dM]
       exact ⟨_,rfl,by omega⟩
theorem Cu.Et (l:List UInt8) (a q:Nat) (o:Option K) (last:K) (d:Ik o last) :
  match lG l q o with
  | .inr f=>((⟨l,a,q,none⟩:Cu).ent last).1.f=some f
  | .inl (x,b)=>∃ i,(⟨l,a,q,none⟩:Cu).ent last=(⟨l,i,b,none⟩,some x)∧b≤l.length:=by
 rcases d with ⟨rfl,rfl⟩ | rfl
 all_goals
  unfold lG
  cases h:l.drop q with
  | nil =>
   have:l.length<q+1:=by have:=aZ List.length h;simp at this;omega
   simp [Cu.ent,Cu.ir,this,List.replicate,Cu.iR]
  | cons t r => ?_
 ·exact Cu.ye l a q (-1,[]) t r true h (FQ _ _)
 ·exact Cu.ye l a q last t r _ h (Ak _ _)
theorem mX (l:List UInt8):∀ (n a q:Nat) (last:K) (es:List E),q≤l.length→SortedE es→Ik (es.getLast?.map (·.1)) last→
  match jg l n q es with
  | .inr f=>(iC n ⟨l,a,q,none⟩ last es).1.f=some f
  | .inl (j,m)=>∃ s,iC n ⟨l,a,q,none⟩ last es=(⟨l,s,j,none⟩,m)∧j≤l.length∧SortedE m
 | 0,a,q,last,es,h,hs,B=>⟨a,rfl,h,hs⟩
 | n+1,a,q,last,es,h,hs,B=>by
  have hc:=Cu.Et l a q _ last B
  unfold jg
  cases he:lG l q (es.getLast?.map (·.1)) with
  | inr f =>
   rw [he] at hc
   simp only at hc⊢
   cases d:(⟨l,a,q,none⟩:Cu).ent last with
   | mk c' o =>
    rw [d] at hc
    cases o with
    | none=>rw [q8 rfl d];exact hc
    | some x=>rw [pf rfl d,q9 hc];exact hc
  | inl D =>
   obtain ⟨x,j⟩:=D
   rw [he] at hc
   obtain ⟨s,d,hle⟩:=hc
   simp only
   have r:=(px he).2.2.2.2.2.2
   have u:∀ y∈es,oa y.1 x.1=true:=by
    intro y b
    rcases List.eq_nil_or_concat es with rfl | ⟨F,z,rfl⟩
    ·cases b
    ·simp only [List.concat_eq_append] at hs b r
     have C:=r z.1 (by simp)
     rcases bE.1 b with b | b
     ·exact nG ((dS.1 hs).2.2 y b z (by simp)) C
     ·rw [ax.1 b];exact C
   have i:ke x.1 x.2 es=es++[x]:=H8 u
   have ih:=mX l n s j x.1 (es++[x]) hle (by rw [←i];exact sorted_put _ _ hs) (.inr (by simp))
   rw [pf rfl d,i]
   exact ih
theorem pw {s:List UInt8} : ∀ {n q d:Nat} {es b:List E},jg s n q es = .inl (d,b)→b.length=es.length+n
 | 0,q,d,es,b,h=>by
  obtain ⟨rfl,rfl⟩:=Prod.mk.inj (Sum.inl.inj h);rfl
 | n+1,q,d,es,b,h=>by
  unfold jg at h
  cases he:lG s q (es.getLast?.map (·.1)) with
  | inr f=>rw [he] at h;cases h
  | inl i =>
   obtain ⟨x,j⟩:=i
   rw [he] at h
   have:=pw h
   simp at this
   omega
theorem sy {s:List UInt8} : ∀ {n q:Nat} {es:List E} {k p:Nat},q≤s.length→jg s n q es = .inr (k,p)→1≤k∧k≤14∧p≤s.length
 | 0,q,es,k,p,_,h=>by cases h
 | n+1,q,es,k,p,hq,h=>by
  unfold jg at h
  cases he:lG s q (es.getLast?.map (·.1)) with
  | inr f =>
   rw [he] at h
   cases h
   exact Cx he hq
  | inl b =>
   obtain ⟨x,d⟩:=b
   rw [he] at h
   exact sy (px he).2.1 h
theorem oq (l:List UInt8):iG l=mx l:=by
 unfold iG mx
 by_cases h8:l.length<8
 ·have i:l.length<0+8:=by omega
  simp [Cu.ir,h8,Cu.iR,Cu.jV,List.replicate,iC,Cu.ended]
 ·have i:¬l.length<0+8:=by omega
  simp only [Cu.ir,h8,df,cy,bG,Cu.jj]
  cases q:isVersionB (iP (l.take 8)) with
  | false=>simp [Cu.jV,List.replicate,iC,Cu.ended]
  | true =>
   simp only [dM,dP,df,Cu.ir]
   by_cases b:l.length<10
   ·have d:l.length<8+2:=b
    simp [b,List.replicate,iC,Cu.ended]
   ·have d:¬l.length<8+2:=b
    have e0:((l.drop 8).take 2).getD 0 0=l.getD 8 0:=by
     simp [aN,dy]
    have j:((l.drop 8).take 2).getD 1 0=l.getD 9 0:=by
     simp [aN,dy]
    simp only [b,df,e0,j]
    have hd:=mX l ((l.getD 8 0).toNat*256+(l.getD 9 0).toNat) 8 10 (-1,[]) [] (by omega) SortedE.nil (.inl ⟨rfl,rfl⟩)
    cases hc:jg l ((l.getD 8 0).toNat*256+(l.getD 9 0).toNat) 10 [] with
    | inr f =>
     rw [hc] at hd
     simp only at hd⊢
     generalize iC ((l.getD 8 0).toNat*256+(l.getD 9 0).toNat) ⟨l,8,10,none⟩ (-1,[]) []=L at hd⊢
     simp [Cu.ended,hd]
    | inl x =>
     obtain ⟨m,o⟩:=x
     rw [hc] at hd
     obtain ⟨r,he,hle,-⟩:=hd
     simp only [he,Cu.ended]
     by_cases hq:m<l.length
     ·simp [hq]
     ·simp [hq]
theorem p9 {l:List UInt8} {n:Nat} {S:List E} (h:iG l = .inl (n,S)):S.length≤65535∧SortedE S:=by
 rw [oq] at h
 unfold mx at h
 split at h
 ·cases h
 split at h
 ·cases h
 split at h
 ·cases h
 rename_i h1 h2 h3
 have hd:=mX l ((l.getD 8 0).toNat*256+(l.getD 9 0).toNat) 8 10 (-1,[]) [] (by omega) SortedE.nil (.inl ⟨rfl,rfl⟩)
 cases hc:jg l ((l.getD 8 0).toNat*256+(l.getD 9 0).toNat) 10 [] with
 | inr f=>rw [hc] at h;cases h
 | inl x =>
  obtain ⟨i,d⟩:=x
  rw [hc] at hd h
  obtain ⟨-,-,-,hs⟩:=hd
  simp only at h
  split at h
  ·cases h
  ·obtain ⟨-,rfl⟩:=Prod.mk.inj (Sum.inl.inj h)
   have:=pw hc
   have a:=(l.getD 8 0).toNat_lt
   have b:=(l.getD 9 0).toNat_lt
   rw [aJ] at this
   have j:(l.getD 8 0).toNat<256:=a
   have m:(l.getD 9 0).toNat<256:=b
   exact ⟨by omega,hs⟩
theorem Ar {l:List UInt8} {k p:Nat} (h:iG l = .inr (k,p)):1≤k∧k≤14∧p≤l.length:=by
 rw [oq] at h
 unfold mx at h
 split at h
 ·cases h;omega
 split at h
 ·cases h;omega
 split at h
 ·cases h;omega
 rename_i h1 h2 h3
 cases hc:jg l ((l.getD 8 0).toNat*256+(l.getD 9 0).toNat) 10 [] with
 | inr f =>
  rw [hc] at h
  cases h
  exact sy (by omega) hc
 | inl x =>
  obtain ⟨d,b⟩:=x
  rw [hc] at h
  simp only at h
  split at h
  ·cases h;omega
  ·cases h
end Go.Proofs.YtkkfmkhbdoeglabGreatDoor
namespace Go.Proofs.YtkkfmkhbdoeglabGreatDoor
abbrev rF:=K×Option (List UInt8)
def nP (h w:List E):List E:=h.filter fun x=>(jB x.1 w).isNone
def qX (h w:List E):List E:=w.filter fun x => !decide (x∈h)
def l5 (l:List E):List rF:=l.map fun x=>(x.1,none)
def kI (l:List E):List rF:=l.map fun x=>(x.1,some x.2)
def jo (h w:List E):List rF:=l5 (nP h w)++kI (qX h w)
def IE (S:List E) (o:rF):List E:=match o.2 with
 | none=>ot o.1 S
 | some v=>ke o.1 v S
def jW (S:List E) (os:List rF):List E:=os.foldl IE S
theorem y9 (S:List E) (os us:List rF):jW S (os++us)=jW (jW S os) us:=di
theorem E8 {S:List E} (o:rF) (h:SortedE S):SortedE (IE S o):=by
 unfold IE
 split
 ·exact lP _ h
 ·exact sorted_put _ _ h
theorem qx:∀ {S:List E} (os:List rF),SortedE S→SortedE (jW S os)
 | _,[],h=>h
 | _,o::os,h=>qx os (E8 o h)
theorem yo:∀ (l:List E) (S:List E) (x:E),x∈jW S (l5 l)↔x∈S∧x.1∉l.map (·.1)
 | [],S,x=>by simp [jW,l5]
 | y::l,S,x=>by
  have ih:=yo l (ot y.1 S) x
  rw [mO] at ih
  simp only [bq,aP,not_or]
  exact ih.trans ⟨fun h=>⟨h.1.1,h.1.2,h.2⟩,fun h=>⟨⟨h.1,h.2.1⟩,h.2.2⟩⟩
theorem wK:∀ (l:List E) (S:List E) (x:E),(l.map (·.1)).Nodup→(x∈jW S (kI l)↔x∈l∨(x∈S∧x.1∉l.map (·.1)))
 | [],S,x,_=>by simp [jW,kI]
 | y::l,S,x,b=>by
  rw [bq,dw] at b
  have ih:=wK l (ke y.1 y.2 S) x b.2
  rw [jA] at ih
  have e:jW S (kI (y::l))=jW (ke y.1 y.2 S) (kI l):=rfl
  rw [e,ih]
  simp only [bq,aP,not_or]
  constructor
  ·rintro (h | ⟨(h | h),h2⟩)
   ·exact .inl (.inr h)
   ·exact .inl (.inl h)
   ·exact .inr ⟨h.1,h.2,h2⟩
  ·rintro ((h | h) | ⟨h1,h2,h3⟩)
   ·exact .inr ⟨.inl h,by rw [h];exact b.1⟩
   ·exact .inl h
   ·exact .inr ⟨.inr ⟨h1,h2⟩,h3⟩
theorem SortedE.filter {S:List E} (h:SortedE S) (p:E→Bool):SortedE (S.filter p):=List.Pairwise.filter p h
theorem SortedE.take {S:List E} (h:SortedE S) (n:Nat):SortedE (S.take n):=h.sublist (List.take_sublist n S)
theorem SortedE.drop {S:List E} (h:SortedE S) (n:Nat):SortedE (S.drop n):=h.sublist (List.drop_sublist n S)
theorem SortedE.inj {S:List E} (h:SortedE S) {x y:E} (b:x∈S) (d:y∈S) (e:x.1=y.1):x=y:=by
 have h1:=(ow h.keys x.1 x.2).2 b
 have h2:=(ow h.keys y.1 y.2).2 d
 rw [e,h2] at h1
 exact Prod.ext e (Option.some.inj h1).symm
theorem tF {h w:List E} (x:E):x∈nP h w↔x∈h∧x.1∉w.map (·.1):=by
 unfold nP
 rw [ch,Option.isNone_iff_eq_none,get_none]
 refine and_congr_right fun _=>⟨fun H hk => ?_,fun H y b e=>H (aB.2 ⟨y,b,e⟩)⟩
 obtain ⟨y,b,e⟩:=aB.1 hk
 exact H y b e
theorem mP {h w:List E} (x:E):x∈qX h w↔x∈w∧x∉h:=by
 unfold qX
 rw [ch]
 simp
theorem za (l:List E) (n:Nat):(l5 l).take n=l5 (l.take n):=(List.map_take ..).symm
theorem Bo (l:List E) (n:Nat):(kI l).take n=kI (l.take n):=(List.map_take ..).symm
theorem l6 (l:List E):(l5 l).length=l.length:=aG _
theorem xM (l:List E):(kI l).length=l.length:=aG _
theorem yn {h w:List E} (hw:SortedE w) (n:Nat) (x:E):x∈jW h ((jo h w).take n)↔
  x∈(qX h w).take (n-(nP h w).length)∨(x∈h∧x.1∉((nP h w).take n).map (·.1)∧x.1∉((qX h w).take (n-(nP h w).length)).map (·.1)):=by
 unfold jo
 rw [List.take_append,za,l6,Bo,y9,wK _ _ _ ((show SortedE (qX h w) from hw.filter _).take _).keys,yo]
 rw [and_assoc]
theorem DU {h w:List E} (m:SortedE h) (hw:SortedE w):jW h (jo h w)=w:=by
 refine SortedE.ext (qx _ m) hw fun x => ?_
 have:=yn (h:=h) hw (jo h w).length x
 rw [bC] at this
 rw [this]
 have hl:(jo h w).length=(nP h w).length+(qX h w).length:=by unfold jo;rw [aq,l6,xM]
 rw [aQ (by omega),aQ (by omega)]
 constructor
 ·rintro (h1 | ⟨h1,h2,h3⟩)
  ·exact ((mP x).1 h1).1
  ·by_cases hk:x.1∈w.map (·.1)
   ·obtain ⟨y,b,e⟩:=aB.1 hk
    by_cases i:y∈h
    ·rw [←m.inj i h1 e];exact b
    ·exact absurd (aB.2 ⟨y,(mP y).2 ⟨b,i⟩,e⟩) h3
   ·exact absurd (aB.2 ⟨x,(tF x).2 ⟨h1,hk⟩,rfl⟩) h2
 ·intro l
  by_cases d:x∈h
  ·refine .inr ⟨d,fun hk => ?_,fun hk => ?_⟩
   ·obtain ⟨y,b,e⟩:=aB.1 hk
    exact ((tF y).1 b).2 (by rw [e];exact aB.2 ⟨x,l,rfl⟩)
   ·obtain ⟨y,b,e⟩:=aB.1 hk
    have j:=(mP y).1 b
    have:=hw.inj j.1 l e
    subst this
    exact j.2 d
  ·exact .inl ((mP x).2 ⟨l,d⟩)
theorem qh {α:Type} {l m:List α} (b:l.Nodup) (h:∀ x∈l,x∈m):l.length≤m.length:=by
 classical
 induction l generalizing m with
 | nil=>exact aM _
 | cons x l ih =>
  rw [dw] at b
  have i:=(List.perm_cons_erase (h x (by simp))).length_eq
  have:=ih (m:=m.erase x) b.2 (fun y d=>(List.mem_erase_of_ne (fun e=>b.1 (by rw [←e];exact d))).2 (h y (aR _ d)))
  simp only [ar] at i⊢
  omega
theorem oi (t:Int) (S:List E):countS t S=((S.map (·.1)).filter fun k=>decide (k.1=t)).length:=by
 unfold countS
 rw [List.countP_eq_length_filter,List.filter_map,aG]
 rfl
theorem qK {S T:List E} (b:SortedE S) (h:∀ x∈S,x.1∈T.map (·.1)) (t:Int):countS t S≤countS t T:=by
 rw [oi,oi]
 refine qh (b.keys.filter _) fun k hk => ?_
 rw [ch] at hk⊢
 obtain ⟨x,d,rfl⟩:=aB.1 hk.1
 exact ⟨h x d,hk.2⟩
theorem vM {S:List E} {k:K} {v:List UInt8} (d:SortedE S) (hk:jB k S=none):countS k.1 (ke k v S)=countS k.1 S+1:=by
 have j:(ke k v S).Perm (S++[(k,v)]):=by
  refine (db (sorted_put k v d).nodup ?_).2 fun x => ?_
  ·rw [cf]
   refine ⟨d.nodup,by simp,fun a ha b i e => ?_⟩
   rw [ax] at i
   subst i e
   exact (get_none k).1 hk _ ha rfl
  ·rw [jA,bE,ax]
   constructor
   ·rintro (h | h)
    ·exact .inr h
    ·exact .inl h.1
   ·rintro (h | h)
    ·exact .inr ⟨h,(get_none k).1 hk x h⟩
    ·exact .inl h
 rw [show countS k.1 (ke k v S)=countS k.1 (S++[(k,v)]) from j.countP_eq _]
 unfold countS
 rw [List.countP_append]
 simp
theorem Gq {h w:List E} {room:Int→Nat} (r:SortedE h) (hw:SortedE w) (hc:∀ t,countS t w≤room t) {n:Nat} {k:K} {v:List UInt8} (b:(jo h w)[n]?=some (k,some v)) :
  (jB k (jW h ((jo h w).take n))).isSome=true∨countS k.1 (jW h ((jo h w).take n))<room k.1:=by
 have i:=qx ((jo h w).take n) r
 have j:(nP h w).length≤n:=by
  refine Nat.le_of_not_lt fun l => ?_
  unfold jo l5 at b
  rw [cG (by rw [aG];exact l),bd,ay l] at b
  cases b
 have s:(qX h w)[n-(nP h w).length]?=some (k,v):=by
  unfold jo kI at b
  rw [cE (by rw [l6];exact j),bd,l6] at b
  cases o:(qX h w)[n-(nP h w).length]? with
  | none=>rw [o] at b;cases b
  | some x=>rw [o] at b;cases b;rfl
 have q:k∈w.map (·.1):=by
  have hm:(k,v)∈qX h w:=aV s
  exact aB.2 ⟨(k,v),((mP _).1 hm).1,rfl⟩
 have m:∀ x∈jW h ((jo h w).take n),x.1∈w.map (·.1):=fun x d=>by
  rcases (yn hw n x).1 d with h1 | ⟨h1,h2,-⟩
  ·exact aB.2 ⟨x,((mP x).1 (cZ h1)).1,rfl⟩
  ·rw [aQ j] at h2
   refine et fun hk=>h2 (aB.2 ⟨x,(tF x).2 ⟨h1,hk⟩,rfl⟩)
 cases u:jB k (jW h ((jo h w).take n)) with
 | some _=>exact .inl rfl
 | none =>
  right
  have h1:=vM (v:=v) i u
  have h2:=qK (sorted_put k v i) (fun x d=>by
   rcases (jA k v _ x).1 d with rfl | ⟨d,-⟩
   ·exact q
   ·exact m x d) k.1
  have h3:=hc k.1
  omega
structure DpS where
 left:Int
 dead:Bool
 room:Nat→Int
 S:List E
 log:List (List UInt8)
def DpS.stop (d:DpS):DpS := {d with left:=if 0<d.left then d.left-1 else d.left,dead:=d.dead || decide (d.left=0)}
def DpS.wR (d:DpS) (t:Int):Int:=if 0≤t∧t<3 then d.room t.toNat else 0
def lX (t:Int):UInt8:=UInt8.ofNat (t%256).toNat
def oR (k:K):List UInt8:=[100,114,111,112,32]++[lX k.1]++k.2
def sR (k:K) (v:List UInt8):List UInt8:=[112,117,116,32]++[lX k.1]++k.2++[61]++v
def lH:List UInt8:=[110,111,32,114,111,111,109]
def qA (o:rF):List UInt8:=match o.2 with
 | none=>oR o.1
 | some v=>sR o.1 v
def DpS.l9 (d:DpS) (k:K):Bool:=(jB k d.S).isSome || decide ((countS k.1 d.S:Int)<d.wR k.1)
def DpS.put (d:DpS) (k:K) (v:List UInt8):DpS :=
 if d.stop.dead then d.stop
 else if d.l9 k then {d.stop with S:=ke k v d.S,log:=d.log++[sR k v]}
 else {d.stop with log:=d.log++[sR k v]++[lH]}
def DpS.drop (d:DpS) (k:K):DpS:=if d.stop.dead then d.stop else {d.stop with S:=ot k d.S,log:=d.log++[oR k]}
def DpS.step (d:DpS) (o:rF):DpS:=match o.2 with
 | none=>d.drop o.1
 | some v=>d.put o.1 v
def DpS.run (d:DpS) (os:List rF):DpS:=os.foldl DpS.step d
theorem DpS.sX (d:DpS) (os:List rF) (o:rF):d.run (os++[o])=(d.run os).step o:=di
def DpS.zN (d:DpS) (os:List rF) (j:Nat):DpS :=
 if d.left<0 then {d with S:=jW d.S (os.take j),log:=d.log++(os.take j).map qA}
 else {d with left:=d.left-(min d.left.toNat j:Nat),dead:=decide (d.left<j),S:=jW d.S (os.take (min d.left.toNat j)),log:=d.log++(os.take (min d.left.toNat j)).map qA}
theorem mD {α:Type} (l:List α) (j:Nat) {x : α} (h:l[j]?=some x):l.take (j+1)=l.take j++[x]:=by
 obtain ⟨b,rfl⟩:=aF.1 h
 exact aT b
theorem DpS.yE (d:DpS) (o:rF) (hs:d.stop.dead=false) (b:∀ v,o.2=some v→d.l9 o.1=true):d.step o = {d.stop with S:=IE d.S o,log:=d.log++[qA o]} := by
 obtain ⟨k,v⟩:=o
 cases v with
 | none =>
  unfold DpS.step DpS.drop IE qA
  simp only [hs]
  rfl
 | some v =>
  have:=b v rfl
  unfold DpS.step DpS.put IE qA
  simp only [hs,this]
  rfl
theorem DpS.yD (d:DpS) (o:rF) (hs:d.stop.dead=true):d.step o=d.stop:=by
 obtain ⟨k,v⟩:=o
 cases v with
 | none =>
  unfold DpS.step DpS.drop
  simp only [hs]
  rfl
 | some v =>
  unfold DpS.step DpS.put
  simp only [hs]
  rfl
theorem vT (S:List E) (os:List rF) (o:rF):jW S (os++[o])=IE (jW S os) o:=di
theorem DpS.Bu (d:DpS) (w:List E) (hd:d.dead=false) (q:SortedE d.S) (hw:SortedE w) (hk:∀ x∈w,0≤x.1.1∧x.1.1<3) (hc:∀ t:Nat,t<3→(countS t w:Int)≤d.room t) :
  ∀ j,j≤(jo d.S w).length→d.run ((jo d.S w).take j)=d.zN (jo d.S w) j
 | 0,_=>by
  unfold DpS.zN
  simp only [cd,Nat.min_zero,du,cM]
  split
  ·rfl
  ·rw [show decide (d.left<((0:Nat):Int))=false by simp;omega,←hd]
   simp [DpS.run,jW]
 | j+1,C=>by
  obtain ⟨o,l⟩:∃ o,(jo d.S w)[j]?=some o:=⟨_,ay (by omega)⟩
  have b:∀ v,o.2=some v→∀ L D G,({d with S:=jW d.S ((jo d.S w).take j),log:=L,left:=G,dead:=D} : DpS).l9 o.1=true:=fun v i L D G=>by
   have m:(jo d.S w)[j]?=some (o.1,some v):=by rw [l,←i]
   have hm:=aV m
   have r:0≤o.1.1∧o.1.1<3:=by
    unfold jo at hm
    rw [bE] at hm
    rcases hm with hm | hm
    ·obtain ⟨x,-,e⟩:=aB.1 hm
     injection e with s u
     cases u
    ·obtain ⟨x,y,e⟩:=aB.1 hm
     injection e with s u
     rw [←s]
     exact hk x ((mP x).1 y).1
   have:=Gq (room:=fun t=>countS t w) q hw (fun _=>af _) m
   unfold DpS.l9 DpS.wR
   rw [dJ]
   refine this.imp id fun h => ?_
   have h3:=hc o.1.1.toNat (by omega)
   rw [show ((o.1.1.toNat:Nat):Int)=o.1.1 by omega] at h3
   rw [aD r,dj]
   show ((countS o.1.1 (jW d.S ((jo d.S w).take j)):Nat):Int)<d.room o.1.1.toNat
   omega
  rw [mD _ _ l,DpS.sX,DpS.Bu d w hd q hw hk hc j (by omega)]
  unfold DpS.zN
  by_cases hl:d.left<0
  ·rw [aD hl,aD hl,DpS.yE _ _ (by unfold DpS.stop;simp [hd];omega) (fun v i=>b v i _ _ _),mD _ _ l,vT,bm]
   unfold DpS.stop
   simp only [hd,DpS.mk.injEq,bq,du,bj,and_true]
   refine ⟨by rw [au (by omega)],?_⟩
   simp
   omega
  ·rw [au hl,au hl]
   by_cases B:j<d.left.toNat
   ·rw [show min d.left.toNat j=j by omega,show min d.left.toNat (j+1)=j+1 by omega,DpS.yE _ _ (by unfold DpS.stop;simp;omega) (fun v i=>b v i _ _ _),mD _ _ l,vT,bm]
    unfold DpS.stop
    simp only [DpS.mk.injEq,bq,du,bj,and_true]
    refine ⟨by rw [aD (by omega)];omega,?_⟩
    rw [dI]
    simp
    omega
   ·rw [show min d.left.toNat j=d.left.toNat by omega,show min d.left.toNat (j+1)=d.left.toNat by omega,DpS.yD _ _ (by unfold DpS.stop;simp;omega)]
    unfold DpS.stop
    simp only [DpS.mk.injEq,and_true]
    refine ⟨by rw [au (by omega)],?_⟩
    rw [dI]
    simp
    omega
end Go.Proofs.YtkkfmkhbdoeglabGreatDoor
namespace Go.Proofs.YtkkfmkhbdoeglabGreatDoor
structure AgA where
 V:Nat
 T:List E
 out:List (List UInt8)
 deg:Option (Nat×Nat)
 com:Option (Nat×Nat×List (List UInt8))
inductive im where
 | delta (v:Nat) (os:List OpB)
 | state (v:Nat) (T:List E)
def AgA.put (a:AgA) (k:UInt8) (body:List UInt8):AgA:=if a.out.length<6 then {a with out:=a.out++[sealB k body]} else a
def AgA.iW (a:AgA):AgA:=a.put 16 (be8 a.V)
def AgA.lQ (a:AgA):AgA:=a.put 17 (be8 a.V)
def AgA.gW (a:AgA) (k:Nat):AgA:=a.put 18 [UInt8.ofNat k]
def AgA.Ez (a:AgA):Nat:=match a.com with
 | some (_,_,got)=>got.length
 | none=>0
def AgA.jM (a:AgA):AgA:=a.put 19 [UInt8.ofNat a.Ez]
def AgA.bad (a:AgA) (k:Nat):AgA:=(a.gW k).iW
def AgA.stops (a:AgA) (f:Nat×Nat):AgA := {a with deg:=some f}.gW f.1
def AgA.tick (a:AgA):AgA:=if a.deg.isSome then a.gW 13 else if a.com.isSome then a.jM else a.iW
def AgA.next (a:AgA):AgA×Option (List UInt8):=match a.out with
 | []=>(a,none)
 | s::l=>({a with out:=l},some s)
def begunA (v:Nat) (T:List E):AgA:=AgA.iW ⟨v,T,[],none,none⟩
def AgA.delta (a:AgA) (body:List UInt8):AgA×Option im:=match pt body with
 | .inr f=>(a.bad f.1,none)
 | .inl (v,os)=>if v≤a.V then (a.lQ,none) else if a.V+1<v then (a.iW,none) else (a,some (.delta v os))
def AgA.nM (a:AgA) (body:List UInt8):AgA :=
 if body.length<9 then a.bad 1 else if 9<body.length then a.bad 2
 else if isVersionB (iP (body.take 8))=false then a.bad 4
 else if (body.getD 8 0).toNat<1∨16<(body.getD 8 0).toNat then a.bad 5
 else if iP (body.take 8)≤a.V then a.lQ
 else {a with com:=some (iP (body.take 8),(body.getD 8 0).toNat,[])}.jM
def AgA.lU (a:AgA) (tv:Nat) (bytes:List UInt8):AgA×Option im:=match iG bytes with
 | .inr f=>(a.bad f.1,none)
 | .inl (v,T)=>if v≠tv then (a.bad 4,none) else if v≤a.V then (a.lQ,none) else (a,some (.state v T))
def AgA.piece (a:AgA) (body:List UInt8):AgA×Option im :=
 if body.length<2 then (a.bad 1,none) else if 65<body.length then (a.bad 2,none)
 else match a.com with
 | none=>(a.iW,none)
 | some (tv,of,got) =>
  if (body.getD 0 0).toNat≠got.length then (a.jM,none)
  else if got.length+1<of then ({a with com:=some (tv,of,got++[body.drop 1])}.jM,none)
  else {a with com:=none}.lU tv (got++[body.drop 1]).flatten
def AgA.taken (a:AgA) (frame:List UInt8):AgA×Option im :=
 if a.deg.isSome then (a.gW 13,none) else match ig frame with
 | .inr f=>(a.bad f.1,none)
 | .inl (k,body) =>
  if k=1 then a.delta body
  else if k=2 then (if body=[] then a.iW else a.bad 2,none)
  else if k=3 then (a.nM body,none)
  else if k=4 then a.piece body
  else (a.bad 6,none)
def overS (S:List E) (room:Nat→Int):Option Nat :=
 if room 0<countS 0 S then some 0 else if room 1<countS 1 S then some 1 else if room 2<countS 2 S then some 2 else none
def im.V:im→Nat
 | .delta v _=>v
 | .state v _=>v
def im.T (tk:im) (S:List E):List E:=match tk with
 | .delta _ os=>foldS S os
 | .state _ T=>T
def iw (S:List E) (room:Nat→Int) (n:Nat):Option (Nat×Nat):=match overS S room with
 | some t=>some (10,t)
 | none=>if 16*(n-8)<sizeS S then some (11,0) else none
def AgA.takes (a:AgA) (tk:im) (room:Nat→Int) (n:Nat):AgA:=match iw (tk.T a.T) room n with
 | some f=>a.stops f
 | none => {a with V:=tk.V,T:=tk.T a.T}.lQ
def AgA.done (a:AgA) (tk:im) (room:Nat→Int) (n:Nat):List (List UInt8):=match iw (tk.T a.T) room n with
 | some _=>[]
 | none=>(jo a.T (tk.T a.T)).map qA
structure AgA.Fit (a:AgA):Prop where
 v:a.V<18446744073709551615
 out:a.out.length≤6
 olen:∀ s∈a.out,s.length≤13
 com:∀ tv of got,a.com=some (tv,of,got)→got.length<of∧of≤16∧tv<18446744073709551616∧∀ s∈got,s.length≤64
end Go.Proofs.YtkkfmkhbdoeglabGreatDoor
