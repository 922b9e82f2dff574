/- A part of what is proved here: lemmas and contracts of single functions. No condition but those that each names. -/
import Derived.Test.YtkkfmkhbdoeglaaGreatDoorG00
import Derived.Deep.CutBlock
import Derived.Test.YtkkfmkhbdoeglaaGreatDoorG05
import Derived.Test.YtkkfmkhbdoeglaaGreatDoorG07
import Derived.Test.YtkkfmkhbdoeglaaGreatDoorG09
import Derived.Test.YtkkfmkhbdoeglaaGreatDoorG14
import Derived.Test.YtkkfmkhbdoeglaaGreatDoorG15
set_option maxHeartbeats 4000000
set_option maxRecDepth 100000
namespace Go.Proofs.YtkkfmkhbdoeglaaGreatDoor
open Go.RowKit
def Cu.ent (c:Cu) (last:K):Cu×Option E :=
 let a:=c.take 1
 let T:Int:=((a.2.headD 0).toNat:Int)
 let c1:=a.1.jr (decide (T<3)) 6
 match c1.f with
 | some _=>(c1,none)
 | none =>
  let b:=c1.take (fN T)
  let c2:=(b.1.jr (iw T b.2) 7).jr (decide (oA last (T,b.2)<0)) 14
  let d:=c2.take (fZ T)
  (d.1.jr (gG T d.2) 9,some ((T,b.2),d.2))
def iA:Nat→Cu→K→List E→Cu×List E
 | 0,c,_,S=>(c,S)
 | n+1,c,last,S =>
  match c.f with
  | some _=>(c,S)
  | none =>
   match c.ent last with
   | (c',none)=>(c',S)
   | (c',some x)=>iA n c' x.1 (jJ x.1 x.2 S)
def iD (l:List UInt8):(Nat×List E)⊕(Nat×Nat) :=
 let a:=Cu.take ⟨l,0,0,none⟩ 8
 let b:=(a.1.jr (isVersionB (iL a.2)) 4).take 2
 let L:=iA ((b.2.getD 0 0).toNat*256+(b.2.getD 1 0).toNat) b.1 (-1,[]) []
 match L.1.ended.f with
 | some f => .inr f
 | none => .inl (iL a.2,L.2)
theorem rJ {c:Cu} {ok:Bool} {k:Nat} (h:(c.jr ok k).f=none):c.f=none∧ok=true:=by
 obtain ⟨l,a,t,f⟩:=c
 cases f with
 | some f=>simp [Cu.jr] at h
 | none=>cases ok <;> simp [Cu.jr] at h⊢
theorem Gd {c:Cu} {n:Nat} (h:(c.take n).1.f=none):c.f=none:=by
 obtain ⟨l,a,t,f⟩:=c
 cases f with
 | some f=>simp [Cu.take] at h
 | none=>rfl
theorem qY {n:Nat} {c:Cu} {last:K} {S:List E} {f:Nat×Nat} (h:c.f=some f):(iA n c last S).1=c:=by
 cases n with
 | zero=>rfl
 | succ n=>unfold iA;rw [h]
theorem oT {n:Nat} {c c':Cu} {last:K} {S:List E} {x:E} (b:c.f=none) (h:c.ent last=(c',some x)):iA (n+1) c last S=iA n c' x.1 (jJ x.1 x.2 S):=by
 conv=>lhs;unfold iA
 rw [b,h]
theorem qX {n:Nat} {c c':Cu} {last:K} {S:List E} (b:c.f=none) (h:c.ent last=(c',none)):iA (n+1) c last S=(c',S):=by
 conv=>lhs;unfold iA
 rw [b,h]
theorem DJ {c:Cu} {last:K} {t:UInt8} {f:Nat×Nat} (b:(c.take 1).2=[t]) (d:((c.take 1).1.jr (decide ((t.toNat:Int)<3)) 6).f=some f):c.ent last=((c.take 1).1.jr (decide ((t.toNat:Int)<3)) 6,none):=by
 unfold Cu.ent
 simp only [b,fq,d]
theorem Ic {c c1:Cu} {last:K} {t:UInt8} (i:(c.take 1).2=[t]) (h1:c1=(c.take 1).1.jr (decide ((t.toNat:Int)<3)) 6) (j:c1.f=none) {T:Int} (l:T=t.toNat) {b d:Cu×List UInt8} {c2:Cu} (m:b=c1.take (fN T)) (h2:c2=(b.1.jr (iw T b.2) 7).jr (decide (oA last (T,b.2)<0)) 14) (hd:d=c2.take (fZ T)) :
  c.ent last=(d.1.jr (gG T d.2) 9,some ((T,b.2),d.2)):=by
 subst hd h2 m l
 unfold Cu.ent
 simp only [i,fq,←h1,j]
theorem CP {w:World} (h:ShapesVar w) (t:UInt8) (b:t.toNat<3):w.cell? ⟨1,t.toNat*2,none⟩=some (.int .i64 (fN (t.toNat:Int))):=by
 have:t.toNat=0∨t.toNat=1∨t.toNat=2:=by omega
 rcases this with e | e | e <;> rw [e]
 ·exact h.c0
 ·exact h.c2
 ·exact h.c4
theorem wo {w:World} (h:ShapesVar w) (t:UInt8) (b:t.toNat<3):w.cell? ⟨1,t.toNat*2+1,none⟩=some (.int .i64 (fZ (t.toNat:Int))):=by
 have:t.toNat=0∨t.toNat=1∨t.toNat=2:=by omega
 rcases this with e | e | e <;> rw [e]
 ·exact h.c1
 ·exact h.c3
 ·exact h.c5
theorem Cb (w:World) (q:Nat) (os:Array Obj):Below w.heap.size w (Sort.grow (w.drewN q) os):=by
 refine ⟨rfl,rfl,rfl,?_,fun k hk => ?_⟩
 ·show w.heap.size≤(w.heap++os).size
  rw [Array.size_append];omega
 ·show (w.heap++os)[k]?=_
  exact eO hk
theorem sS (T:Int):fN T≤100:=by unfold fN;split <;> (try split) <;> omega
theorem Cl (T:Int):1≤fN T:=by unfold fN;split <;> (try split) <;> omega
theorem tz (T:Int):fZ T≤100:=by unfold fZ;split <;> (try split) <;> omega
theorem CZ (T:Int):1≤fZ T:=by unfold fZ;split <;> (try split) <;> omega
structure kQ (w5:World) (base c r Bl:Nat) (cu:Cu) (last:K) (S:List E) (W:World):Prop where
 cur:CurAt W base c cu
 tab:TabAt W r S
 cell:W.cell? ⟨r+1,0,none⟩=some (.map (some r))
 box:W.heap[Bl]?=some (.cells #[.int .i64 last.1,.string ⟨last.2.toArray⟩] 94 (0,0))
 shp:ShapesVar W
 ext:Ext (fun i=>i=c∨i=r∨i=Bl) w5 W
 geo:2≤base∧base≤c∧c<r∧r+1<Bl∧Bl<w5.heap.size
section
variable {w5 W W':World} {base c r Bl:Nat} {cu cu':Cu} {last:K} {S S':List E}
theorem kQ.size (h:kQ w5 base c r Bl cu last S W):w5.heap.size≤W.heap.size:=h.ext.size
theorem kQ.zR (h:kQ w5 base c r Bl cu last S W) (b:W.grownBy W' (some c)) (hc:CurAt W' base c cu'):kQ w5 base c r Bl cu' last S W':=by
 obtain ⟨g1,g2,g3,g4,g5⟩:=h.geo
 have hs:=h.size
 exact ⟨hc,h.tab.fW (b.block r h.tab.lt (fun e=>by cases e;omega)),(aU (a:=⟨r+1,0,none⟩) (b.block (r+1) (by omega) (fun e=>by cases e;omega))).trans h.cell,
  (b.block Bl (by omega) (fun e=>by cases e;omega)).trans h.box,h.shp.grown b (by omega),h.ext.grow b (.inl (.inl rfl)),h.geo⟩
theorem kQ.fresh (h:kQ w5 base c r Bl cu last S W) (b:Below W.heap.size W W'):kQ w5 base c r Bl cu last S W':=by
 obtain ⟨g1,g2,g3,g4,g5⟩:=h.geo
 have hs:=h.size
 exact ⟨h.cur.fW b,h.tab.fW (b.block r h.tab.lt),(b.cell (p:=⟨r+1,0,none⟩) (show r+1<_ by omega)).trans h.cell,(b.block Bl (by omega)).trans h.box,h.shp.new b,h.ext.qj b,h.geo⟩
theorem kQ.put (h:kQ w5 base c r Bl cu last S W) (b:W.grownBy W' (some r)) (d:TabAt W' r S'):kQ w5 base c r Bl cu last S' W':=by
 obtain ⟨g1,g2,g3,g4,g5⟩:=h.geo
 have hs:=h.size
 refine ⟨h.cur.grown b g3 ?_,d,(aU (a:=⟨r+1,0,none⟩) (b.block (r+1) (by omega) (fun e=>by simp at e))).trans h.cell,
  (b.block Bl (by omega) (fun e=>by cases e;omega)).trans h.box,h.shp.grown b (by omega),h.ext.grow b (.inl (.inr (.inl rfl))),h.geo⟩
 obtain ⟨-,L,hm,-⟩:=h.tab
 exact hm.jR
theorem kQ.step (h:kQ w5 base c r Bl cu last S W) (k:K):kQ w5 base c r Bl cu k S ((W.setCell ⟨Bl,0,none⟩ (.int .i64 k.1)).setCell ⟨Bl,1,none⟩ (.string ⟨k.2.toArray⟩)):=by
 obtain ⟨g1,g2,g3,g4,g5⟩:=h.geo
 have hs:=h.size
 have b:W.grownBy ((W.setCell ⟨Bl,0,none⟩ (.int .i64 k.1)).setCell ⟨Bl,1,none⟩ (.string ⟨k.2.toArray⟩)) (some Bl):=gC (grownBy_set (Below.refl _ W) 0 _) 1 _
 exact ⟨h.cur.grown b (by omega) (fun d m e=>by rw [h.box] at e;simp at e),h.tab.fW (b.block r h.tab.lt (fun e=>by cases e;omega)),(aU (a:=⟨r+1,0,none⟩) (b.block (r+1) (by omega) (fun e=>by cases e;omega))).trans h.cell,
  heap_setCell _ _ 1 _ (heap_setCell _ _ 0 _ h.box),h.shp.grown b (by omega),h.ext.grow b (.inl (.inr (.inr rfl))),h.geo⟩
theorem kQ.I5 (h:kQ w5 base c r Bl cu last S W) {B:Nat} {C:Array Value} {T:TypeId} {fz:Nat×Nat} (d:W.heap[B]?=some (.cells C T fz)) (hl:Bl<B) (i:T≠166) (b:W.grownBy W' (some B)) (h5:w5.heap.size≤B):kQ w5 base c r Bl cu last S W':=by
 obtain ⟨g1,g2,g3,g4,g5⟩:=h.geo
 have hs:=h.size
 exact ⟨h.cur.grown b (by omega) (fun j m e=>by rw [d] at e;injection e with e;injection e with _ e _;exact i e),h.tab.fW (b.block r h.tab.lt (fun e=>by cases e;omega)),(aU (a:=⟨r+1,0,none⟩) (b.block (r+1) (by omega) (fun e=>by cases e;omega))).trans h.cell,
  (b.block Bl (by omega) (fun e=>by cases e;omega)).trans h.box,h.shp.grown b (by omega),h.ext.grow b (.inr h5),h.geo⟩
theorem kQ.boxes (_h:kQ w5 base c r Bl cu last S W) {B:Nat} {o:Obj} (b:W.heap[B]?=some o) (hc:c<B) (d:W.grownBy W' (some c)):W'.heap[B]?=some o :=
 (d.block B (fI b) (fun e=>by cases e;omega)).trans b
end
end Go.Proofs.YtkkfmkhbdoeglaaGreatDoor
namespace Go.Proofs.YtkkfmkhbdoeglaaGreatDoor
open Go.RowKit
def H7 (last:Option K) (k:K):Bool:=match last with
 | none=>true
 | some b=>nJ b k
def lA (s:List UInt8) (at':Nat) (last:Option K):(E×Nat)⊕(Nat×Nat) :=
 match s.drop at' with
 | [] => .inr (1,at')
 | t::r =>
  if 2<t.toNat then .inr (6,at')
  else if r.length<fN t.toNat then .inr (1,at'+1)
  else if iw t.toNat (r.take (fN t.toNat))=false then .inr (7,at'+1)
  else if (H7 last ((t.toNat:Int),r.take (fN t.toNat)))=false then .inr (14,at'+1)
  else if r.length<fN t.toNat+fZ t.toNat then .inr (1,at'+1+fN t.toNat)
  else if gG t.toNat ((r.drop (fN t.toNat)).take (fZ t.toNat))=false then .inr (9,at'+1+fN t.toNat)
  else .inl ((((t.toNat:Int),r.take (fN t.toNat)),(r.drop (fN t.toNat)).take (fZ t.toNat)),at'+1+fN t.toNat+fZ t.toNat)
theorem drop1 {l:List UInt8} {q:Nat} {x:UInt8} {r:List UInt8} (h:l.drop q=x::r):l.drop (q+1)=r∧l.length=q+1+r.length∧l[q]?=some x:=by
 have h1:(l.drop q).drop 1=r:=by rw [h];rfl
 rw [cO] at h1
 have h2:=bB List.length h
 rw [a8,au] at h2
 refine ⟨h1,by omega,?_⟩
 have h3:(l.drop q)[0]?=some x:=by rw [h];rfl
 rwa [dy,cC] at h3
def iW (s:List UInt8):Nat→Nat→List E→(Nat×List E)⊕(Nat×Nat)
 | 0,at',l => .inl (at',l)
 | n+1,at',l =>
  match lA s at' (l.getLast?.map (·.1)) with
  | .inr f => .inr f
  | .inl (x,q)=>iW s n q (l++[x])
def mg (s:List UInt8):(Nat×List E)⊕(Nat×Nat) :=
 if s.length<8 then .inr (1,0)
 else if isVersionB (iL (s.take 8))=false then .inr (4,0)
 else if s.length<10 then .inr (1,8)
 else match iW s ((s.getD 8 0).toNat*256+(s.getD 9 0).toNat) 10 [] with
  | .inr f => .inr f
  | .inl (q,l)=>if q<s.length then .inr (2,q) else .inl (iL (s.take 8),l)
theorem G3 {S:List E} {k:K} {v:List UInt8} (h:∀ x∈S,nJ x.1 k=true):jJ k v S=S++[(k,v)]:=by
 unfold jJ
 rw [ez.2 h,dZ.2 (fun x b=>by rw [kN (h x b)];decide)]
theorem o6 {s:List UInt8} {at' q:Nat} {last:Option K} {x:E} (h:lA s at' last = .inl (x,q)):at'<q∧q≤s.length∧0≤x.1.1∧x.1.1<3∧iw x.1.1 x.1.2=true∧gG x.1.1 x.2=true∧(∀ k,last=some k→nJ k x.1=true):=by
 unfold lA at h
 split at h
 ·cases h
 ·rename_i t r hd
  have hl:=(drop1 hd).2.1
  have key:∀ c:Bool,(∀ k,last=some k→c=nJ k ((t.toNat:Int),r.take (fN (t.toNat:Int))))→(if 2<t.toNat then Sum.inr (6,at')
   else if r.length<fN (t.toNat:Int) then .inr (1,at'+1)
   else if iw (t.toNat:Int) (r.take (fN (t.toNat:Int)))=false then .inr (7,at'+1)
   else if c=false then .inr (14,at'+1)
   else if r.length<fN (t.toNat:Int)+fZ (t.toNat:Int) then .inr (1,at'+1+fN (t.toNat:Int))
   else if gG (t.toNat:Int) ((r.drop (fN (t.toNat:Int))).take (fZ (t.toNat:Int)))=false then .inr (9,at'+1+fN (t.toNat:Int))
   else .inl ((((t.toNat:Int),r.take (fN (t.toNat:Int))),(r.drop (fN (t.toNat:Int))).take (fZ (t.toNat:Int))),at'+1+fN (t.toNat:Int)+fZ (t.toNat:Int)))=(.inl (x,q):(E×Nat)⊕(Nat×Nat))→
   at'<q∧q≤s.length∧0≤x.1.1∧x.1.1<3∧iw x.1.1 x.1.2=true∧gG x.1.1 x.2=true∧(∀ k,last=some k→nJ k x.1=true):=by
   intro c hc h
   split at h
   ·cases h
   split at h
   ·cases h
   split at h
   ·cases h
   split at h
   ·cases h
   split at h
   ·cases h
   split at h
   ·cases h
   rename_i h1 h2 h3 h4 h5 h6
   obtain ⟨b,hq⟩:=Prod.mk.inj (Sum.inl.inj h)
   subst b hq
   exact ⟨by omega,by omega,by simp,by simp only [];omega,by simpa using h3,by simpa using h6,fun k hk=>by rw [←hc k hk];simpa using h4⟩
  cases last with
  | none=>exact key true (fun k hk=>by (cases hk)) h
  | some d=>exact key _ (fun k hk=>by (cases hk;rfl)) h
theorem BP {s:List UInt8} {at':Nat} {last:Option K} {k p:Nat} (h:lA s at' last = .inr (k,p)) (ha:at'≤s.length):1≤k∧k≤14∧p≤s.length:=by
 unfold lA at h
 split at h
 ·obtain ⟨rfl,rfl⟩:=Prod.mk.inj (Sum.inr.inj h);omega
 ·rename_i t r hd
  have hl:=(drop1 hd).2.1
  split at h
  ·obtain ⟨rfl,rfl⟩:=Prod.mk.inj (Sum.inr.inj h);omega
  split at h
  ·obtain ⟨rfl,rfl⟩:=Prod.mk.inj (Sum.inr.inj h);omega
  split at h
  ·obtain ⟨rfl,rfl⟩:=Prod.mk.inj (Sum.inr.inj h);omega
  split at h
  ·obtain ⟨rfl,rfl⟩:=Prod.mk.inj (Sum.inr.inj h);omega
  split at h
  ·obtain ⟨rfl,rfl⟩:=Prod.mk.inj (Sum.inr.inj h);omega
  split at h
  ·obtain ⟨rfl,rfl⟩:=Prod.mk.inj (Sum.inr.inj h);omega
  cases h
end Go.Proofs.YtkkfmkhbdoeglaaGreatDoor
namespace Go.Proofs.YtkkfmkhbdoeglaaGreatDoor
open Go.RowKit
theorem zM (a b:K):decide (oA a b<0)=nJ a b:=by
 unfold oA nJ oY pU
 rcases dS a.1 b.1 with h | h | h
 ·simp [h]
 ·have h1:¬a.1<b.1:=by omega
  have h2:¬b.1<a.1:=by omega
  simp only [h]
  simp
  by_cases h3:a.2<b.2
  ·simp [h3]
  ·simp only [h3,df,iff_false]
   split <;> decide
 ·have h1:¬a.1<b.1:=by omega
  have h2:¬a.1=b.1:=by omega
  simp [h,h1,h2]
def Hg (o:Option K) (last:K):Prop:=(o=none∧last=(-1,[]))∨o=some last
theorem Fc (T:Nat) (k:List UInt8):decide (oA (-1,[]) ((T:Int),k)<0)=true:=by
 rw [zM]
 simp [nJ];omega
theorem Cu.xD (l:List UInt8) (a q:Nat) (last:K) (t:UInt8) (r:List UInt8) (c:Bool) (h:l.drop q=t::r) (hc:decide (oA last ((t.toNat:Int),r.take (fN (t.toNat:Int)))<0)=c) :
  match (if 2<t.toNat then Sum.inr (6,q)
   else if r.length<fN (t.toNat:Int) then .inr (1,q+1)
   else if iw (t.toNat:Int) (r.take (fN (t.toNat:Int)))=false then .inr (7,q+1)
   else if c=false then .inr (14,q+1)
   else if r.length<fN (t.toNat:Int)+fZ (t.toNat:Int) then .inr (1,q+1+fN (t.toNat:Int))
   else if gG (t.toNat:Int) ((r.drop (fN (t.toNat:Int))).take (fZ (t.toNat:Int)))=false then .inr (9,q+1+fN (t.toNat:Int))
   else .inl ((((t.toNat:Int),r.take (fN (t.toNat:Int))),(r.drop (fN (t.toNat:Int))).take (fZ (t.toNat:Int))),q+1+fN (t.toNat:Int)+fZ (t.toNat:Int)):(E×Nat)⊕(Nat×Nat)) with
  | .inr f=>((⟨l,a,q,none⟩:Cu).ent last).1.f=some f
  | .inl (x,i)=>∃ o,(⟨l,a,q,none⟩:Cu).ent last=(⟨l,o,i,none⟩,some x)∧i≤l.length:=by
 obtain ⟨hd,hl,-⟩:=drop1 h
 have s:¬l.length<q+1:=by omega
 simp only [Cu.ent,Cu.ik,s,df,h,bA,ch,fq]
 by_cases h2:2<t.toNat
 ·have h3:¬(t.toNat:Int)<3:=by omega
  rw [aF h2]
  simp [Cu.iY,h3]
 ·have h3:(t.toNat:Int)<3:=by omega
  rw [aw h2]
  simp only [Cu.iY,h3,decide_true,dL,Cu.ik,hl]
  by_cases hs:r.length<fN (t.toNat:Int)
  ·have b:q+1+r.length<q+1+fN (t.toNat:Int):=by omega
   simp only [hs,b,dL,Cu.iN,Cu.jI]
  ·have b:¬q+1+r.length<q+1+fN (t.toNat:Int):=by omega
   simp only [hs,b,df,hd,Cu.iY]
   cases hk:iw (t.toNat:Int) (r.take (fN (t.toNat:Int))) with
   | false=>simp [Cu.iN,Cu.jI]
   | true =>
    simp only [dO,df,dL,Cu.iY,hc]
    cases c with
    | false=>simp [Cu.iN,Cu.jI]
    | true =>
     simp only [dO,df,dL,Cu.ik,hl]
     have j:l.drop (q+1+fN (t.toNat:Int))=r.drop (fN (t.toNat:Int)):=by rw [←hd,cO]
     by_cases m:r.length<fN (t.toNat:Int)+fZ (t.toNat:Int)
     ·have d:q+1+r.length<q+1+fN (t.toNat:Int)+fZ (t.toNat:Int):=by omega
      simp only [m,d,dL,Cu.iN]
     ·have d:¬q+1+r.length<q+1+fN (t.toNat:Int)+fZ (t.toNat:Int):=by omega
      simp only [m,d,df,j,Cu.iY]
      cases u:gG (t.toNat:Int) ((r.drop (fN (t.toNat:Int))).take (fZ (t.toNat:Int))) with
      | false=>simp
      | true =>
       simp only [dO,df,dL]
       exact ⟨_,rfl,by omega⟩
theorem Cu.DK (l:List UInt8) (a q:Nat) (o:Option K) (last:K) (d:Hg o last) :
  match lA l q o with
  | .inr f=>((⟨l,a,q,none⟩:Cu).ent last).1.f=some f
  | .inl (x,b)=>∃ i,(⟨l,a,q,none⟩:Cu).ent last=(⟨l,i,b,none⟩,some x)∧b≤l.length:=by
 rcases d with ⟨rfl,rfl⟩ | rfl
 all_goals
  unfold lA
  cases h:l.drop q with
  | nil =>
   have:l.length<q+1:=by have:=bB List.length h;simp at this;omega
   simp [Cu.ent,Cu.ik,this,List.replicate,Cu.iN]
  | cons t r => ?_
 ·exact Cu.xD l a q (-1,[]) t r true h (Fc _ _)
 ·exact Cu.xD l a q last t r _ h (zM _ _)
theorem mL (l:List UInt8):∀ (n a q:Nat) (last:K) (es:List E),q≤l.length→SortedE es→Hg (es.getLast?.map (·.1)) last→
  match iW l n q es with
  | .inr f=>(iA n ⟨l,a,q,none⟩ last es).1.f=some f
  | .inl (j,m)=>∃ s,iA n ⟨l,a,q,none⟩ last es=(⟨l,s,j,none⟩,m)∧j≤l.length∧SortedE m
 | 0,a,q,last,es,h,hs,B=>⟨a,rfl,h,hs⟩
 | n+1,a,q,last,es,h,hs,B=>by
  have hc:=Cu.DK l a q _ last B
  unfold iW
  cases he:lA l q (es.getLast?.map (·.1)) with
  | inr f =>
   rw [he] at hc
   simp only at hc⊢
   cases d:(⟨l,a,q,none⟩:Cu).ent last with
   | mk c' o =>
    rw [d] at hc
    cases o with
    | none=>rw [qX rfl d];exact hc
    | some x=>rw [oT rfl d,qY hc];exact hc
  | inl D =>
   obtain ⟨x,j⟩:=D
   rw [he] at hc
   obtain ⟨s,d,hle⟩:=hc
   simp only
   have r:=(o6 he).2.2.2.2.2.2
   have u:∀ y∈es,nJ y.1 x.1=true:=by
    intro y b
    rcases List.eq_nil_or_concat es with rfl | ⟨F,z,rfl⟩
    ·cases b
    ·simp only [List.concat_eq_append] at hs b r
     have C:=r z.1 (by simp)
     rcases bU.1 b with b | b
     ·exact nl ((dB.1 hs).2.2 y b z (by simp)) C
     ·rw [az.1 b];exact C
   have i:jJ x.1 x.2 es=es++[x]:=G3 u
   have ih:=mL l n s j x.1 (es++[x]) hle (by rw [←i];exact sorted_put _ _ hs) (.inr (by simp))
   rw [oT rfl d,i]
   exact ih
theorem o5 {s:List UInt8} : ∀ {n q d:Nat} {es b:List E},iW s n q es = .inl (d,b)→b.length=es.length+n
 | 0,q,d,es,b,h=>by
  obtain ⟨rfl,rfl⟩:=Prod.mk.inj (Sum.inl.inj h);rfl
 | n+1,q,d,es,b,h=>by
  unfold iW at h
  cases he:lA s q (es.getLast?.map (·.1)) with
  | inr f=>rw [he] at h;cases h
  | inl i =>
   obtain ⟨x,j⟩:=i
   rw [he] at h
   have:=o5 h
   simp at this
   omega
theorem rZ {s:List UInt8} : ∀ {n q:Nat} {es:List E} {k p:Nat},q≤s.length→iW s n q es = .inr (k,p)→1≤k∧k≤14∧p≤s.length
 | 0,q,es,k,p,_,h=>by cases h
 | n+1,q,es,k,p,hq,h=>by
  unfold iW at h
  cases he:lA s q (es.getLast?.map (·.1)) with
  | inr f =>
   rw [he] at h
   cases h
   exact BP he hq
  | inl b =>
   obtain ⟨x,d⟩:=b
   rw [he] at h
   exact rZ (o6 he).2.1 h
theorem nP (l:List UInt8):iD l=mg l:=by
 unfold iD mg
 by_cases h8:l.length<8
 ·have i:l.length<0+8:=by omega
  simp [Cu.ik,h8,Cu.iN,Cu.jI,List.replicate,iA,Cu.ended]
 ·have i:¬l.length<0+8:=by omega
  simp only [Cu.ik,h8,df,cA,bF,Cu.iY]
  cases q:isVersionB (iL (l.take 8)) with
  | false=>simp [Cu.jI,List.replicate,iA,Cu.ended]
  | true =>
   simp only [dL,dO,df,Cu.ik]
   by_cases b:l.length<10
   ·have d:l.length<8+2:=b
    simp [b,List.replicate,iA,Cu.ended]
   ·have d:¬l.length<8+2:=b
    have e0:((l.drop 8).take 2).getD 0 0=l.getD 8 0:=by
     simp []
    have j:((l.drop 8).take 2).getD 1 0=l.getD 9 0:=by
     simp []
    simp only [b,df,e0,j]
    have hd:=mL l ((l.getD 8 0).toNat*256+(l.getD 9 0).toNat) 8 10 (-1,[]) [] (by omega) SortedE.nil (.inl ⟨rfl,rfl⟩)
    cases hc:iW l ((l.getD 8 0).toNat*256+(l.getD 9 0).toNat) 10 [] with
    | inr f =>
     rw [hc] at hd
     simp only at hd⊢
     generalize iA ((l.getD 8 0).toNat*256+(l.getD 9 0).toNat) ⟨l,8,10,none⟩ (-1,[]) []=L at hd⊢
     simp [Cu.ended,hd]
    | inl x =>
     obtain ⟨m,o⟩:=x
     rw [hc] at hd
     obtain ⟨r,he,hle,-⟩:=hd
     simp only [he,Cu.ended]
     by_cases hq:m<l.length
     ·simp [hq]
     ·simp [hq]
theorem pV {l:List UInt8} {n:Nat} {S:List E} (h:iD l = .inl (n,S)):S.length≤65535∧SortedE S:=by
 rw [nP] at h
 unfold mg at h
 split at h
 ·cases h
 split at h
 ·cases h
 split at h
 ·cases h
 rename_i h1 h2 h3
 have hd:=mL l ((l.getD 8 0).toNat*256+(l.getD 9 0).toNat) 8 10 (-1,[]) [] (by omega) SortedE.nil (.inl ⟨rfl,rfl⟩)
 cases hc:iW l ((l.getD 8 0).toNat*256+(l.getD 9 0).toNat) 10 [] with
 | inr f=>rw [hc] at h;cases h
 | inl x =>
  obtain ⟨i,d⟩:=x
  rw [hc] at hd h
  obtain ⟨-,-,-,hs⟩:=hd
  simp only at h
  split at h
  ·cases h
  ·obtain ⟨-,rfl⟩:=Prod.mk.inj (Sum.inl.inj h)
   have:=o5 hc
   have a:=(l.getD 8 0).toNat_lt
   have b:=(l.getD 9 0).toNat_lt
   rw [aJ] at this
   have j:(l.getD 8 0).toNat<256:=a
   have m:(l.getD 9 0).toNat<256:=b
   exact ⟨by omega,hs⟩
theorem zU {l:List UInt8} {k p:Nat} (h:iD l = .inr (k,p)):1≤k∧k≤14∧p≤l.length:=by
 rw [nP] at h
 unfold mg at h
 split at h
 ·cases h;omega
 split at h
 ·cases h;omega
 split at h
 ·cases h;omega
 rename_i h1 h2 h3
 cases hc:iW l ((l.getD 8 0).toNat*256+(l.getD 9 0).toNat) 10 [] with
 | inr f =>
  rw [hc] at h
  cases h
  exact rZ (by omega) hc
 | inl x =>
  obtain ⟨d,b⟩:=x
  rw [hc] at h
  simp only at h
  split at h
  ·cases h;omega
  ·cases h
end Go.Proofs.YtkkfmkhbdoeglaaGreatDoor
namespace Go.Proofs.YtkkfmkhbdoeglaaGreatDoor
structure AgA where
 V:Nat
 T:List E
 out:List (List UInt8)
 deg:Option (Nat×Nat)
 com:Option (Nat×Nat×List (List UInt8))
inductive ie where
 | delta (v:Nat) (os:List OpB)
 | state (v:Nat) (T:List E)
def AgA.put (a:AgA) (k:UInt8) (body:List UInt8):AgA:=if a.out.length<6 then {a with out:=a.out++[sealB k body]} else a
def AgA.jb (a:AgA):AgA:=a.put 16 (j4 a.V)
def AgA.lJ (a:AgA):AgA:=a.put 17 (j4 a.V)
def AgA.gW (a:AgA) (k:Nat):AgA:=a.put 18 [UInt8.ofNat k]
def AgA.IJ (a:AgA):Nat:=match a.com with
 | some (_,_,got)=>got.length
 | none=>0
def AgA.jM (a:AgA):AgA:=a.put 19 [UInt8.ofNat a.IJ]
def AgA.bad (a:AgA) (k:Nat):AgA:=(a.gW k).jb
def AgA.stops (a:AgA) (f:Nat×Nat):AgA := {a with deg:=some f}.gW f.1
def AgA.next (a:AgA):AgA×Option (List UInt8):=match a.out with
 | []=>(a,none)
 | s::l=>({a with out:=l},some s)
def begunA (v:Nat) (T:List E):AgA:=AgA.jb ⟨v,T,[],none,none⟩
def AgA.delta (a:AgA) (body:List UInt8):AgA×Option ie:=match pO body with
 | .inr f=>(a.bad f.1,none)
 | .inl (v,os)=>if v≤a.V then (a.lJ,none) else if a.V+1<v then (a.jb,none) else (a,some (.delta v os))
def AgA.mM (a:AgA) (body:List UInt8):AgA :=
 if body.length<9 then a.bad 1 else if 9<body.length then a.bad 2
 else if isVersionB (iL (body.take 8))=false then a.bad 4
 else if (body.getD 8 0).toNat<1∨16<(body.getD 8 0).toNat then a.bad 5
 else if iL (body.take 8)≤a.V then a.lJ
 else {a with com:=some (iL (body.take 8),(body.getD 8 0).toNat,[])}.jM
def AgA.lO (a:AgA) (tv:Nat) (bytes:List UInt8):AgA×Option ie:=match iD bytes with
 | .inr f=>(a.bad f.1,none)
 | .inl (v,T)=>if v≠tv then (a.bad 4,none) else if v≤a.V then (a.lJ,none) else (a,some (.state v T))
def AgA.piece (a:AgA) (body:List UInt8):AgA×Option ie :=
 if body.length<2 then (a.bad 1,none) else if 65<body.length then (a.bad 2,none)
 else match a.com with
 | none=>(a.jb,none)
 | some (tv,of,got) =>
  if (body.getD 0 0).toNat≠got.length then (a.jM,none)
  else if got.length+1<of then ({a with com:=some (tv,of,got++[body.drop 1])}.jM,none)
  else {a with com:=none}.lO tv (got++[body.drop 1]).flatten
def AgA.taken (a:AgA) (frame:List UInt8):AgA×Option ie :=
 if a.deg.isSome then (a.gW 13,none) else match gX frame with
 | .inr f=>(a.bad f.1,none)
 | .inl (k,body) =>
  if k=1 then a.delta body
  else if k=2 then (if body=[] then a.jb else a.bad 2,none)
  else if k=3 then (a.mM body,none)
  else if k=4 then a.piece body
  else (a.bad 6,none)
def overS (S:List E) (room:Nat→Int):Option Nat :=
 if room 0<countS 0 S then some 0 else if room 1<countS 1 S then some 1 else if room 2<countS 2 S then some 2 else none
def ie.V:ie→Nat
 | .delta v _=>v
 | .state v _=>v
def ie.T (tk:ie) (S:List E):List E:=match tk with
 | .delta _ os=>foldS S os
 | .state _ T=>T
def iq (S:List E) (room:Nat→Int) (n:Nat):Option (Nat×Nat):=match overS S room with
 | some t=>some (10,t)
 | none=>if 16*(n-8)<sizeS S then some (11,0) else none
def AgA.takes (a:AgA) (tk:ie) (room:Nat→Int) (n:Nat):AgA:=match iq (tk.T a.T) room n with
 | some f=>a.stops f
 | none => {a with V:=tk.V,T:=tk.T a.T}.lJ
def AgA.done (a:AgA) (tk:ie) (room:Nat→Int) (n:Nat):List (List UInt8):=match iq (tk.T a.T) room n with
 | some _=>[]
 | none=>(je a.T (tk.T a.T)).map qu
structure AgA.Fit (a:AgA):Prop where
 v:a.V<18446744073709551615
 out:a.out.length≤6
 olen:∀ s∈a.out,s.length≤13
 com:∀ tv of got,a.com=some (tv,of,got)→got.length<of∧of≤16∧tv<18446744073709551616∧∀ s∈got,s.length≤64
end Go.Proofs.YtkkfmkhbdoeglaaGreatDoor
namespace Go.Proofs.YtkkfmkhbdoeglaaGreatDoor
structure LogS where
 stamp:Nat
 slot:Nat
 next:Nat
def fO (H:fJ) (g:LogS) (at':Nat) (data:List UInt8):fJ×Option Nat:=match gD (gj (g.stamp+1) data) H at' with
 | (H1,some f)=>(H1,some f)
 | (H1,none)=>H1.flush
def Ci (g:LogS) (n:Nat):fJ×Option Nat→fJ×LogS×Option Nat
 | (H1,some f)=>(H1,{g with stamp:=g.stamp+1},some f)
 | (H1,none)=>(H1,⟨g.stamp+1,1-g.slot,2*placeOf n⟩,none)
def fT (H:fJ) (g:LogS) (v:Nat) (T:List E):fJ×LogS×Option Nat:=Ci g H.seen.length (fO H g ((1-g.slot)*placeOf H.seen.length) (gH v T))
def qf (g:LogS) (b:List UInt8):fJ×Option Nat→fJ×LogS×Option Nat
 | (H1,some f)=>(H1,{g with stamp:=g.stamp+1},some f)
 | (H1,none)=>(H1,{g with stamp:=g.stamp+1,next:=g.next+partsOf b.length},none)
def gI (H:fJ) (g:LogS) (b:List UInt8):fJ×LogS×Option Nat:=qf g b (fO H g g.next b)
def FM (b:List UInt8):fJ×LogS×Option Nat→fJ×LogS×Option Nat
 | (H1,g1,some f)=>(H1,g1,some f)
 | (H1,g1,none)=>gI H1 g1 b
def gR (H:fJ) (g:LogS) (b:List UInt8) (v:Nat) (T:List E):fJ×LogS×Option Nat :=
 if H.seen.length<g.next+partsOf b.length then FM b (fT H g v T) else gI H g b
def readAll (H:fJ):fJ×Option Nat :=
 if 0≤H.fail∧H.fail<H.seen.length then ({H with fail := -1},some (H.fail.toNat+2))
 else ({H with fail:=if H.fail<0 then H.fail else H.fail-H.seen.length},none)
def gK (seen:List (List UInt8)):Nat:=seen.foldl (fun m b=>max m (parseSec b).stamp) 0
def decSB (l:List UInt8):Option (Nat×List E):=match iD l with
 | .inl r=>some r
 | .inr _=>none
def decDB (l:List UInt8):Option (Nat×List OpB):=match pO l with
 | .inl r=>some r
 | .inr _=>none
def Az (seen:List (List UInt8)):LogS×Nat×List E :=
 let d:=seen.map parseSec
 let p:=placeOf d.length
 let b:=th decSB d p []
 let c:=km foldS (xV decDB d (iC d p)) (d.length+1) b.1 b.2.2.1 b.2.2.2 (2*p)
 (⟨gK seen,b.2.1,c.2.2⟩,c.1,c.2.1)
structure PAg where
 a:AgA
 sec:Nat
 lg:LogS
def ie.log (tk:ie) (H:fJ) (P:PAg):fJ×LogS×Option Nat:=match tk with
 | .delta v os=>gR H P.lg (jo v os) P.a.V P.a.T
 | .state v T=>fT H P.lg v T
def fJ.mQ (H:fJ) (T:List E):fJ := {H with dp:=H.dp.run (je H.dp.S T)}
def uL (P:PAg) (tk:ie):fJ×LogS×Option Nat→fJ×PAg
 | (H1,g1,some f)=>(H1,⟨P.a.stops (12,0),f,g1⟩)
 | (H1,g1,none)=>(H1.mQ (tk.T P.a.T),⟨{P.a with V:=tk.V,T:=tk.T P.a.T}.lJ,P.sec,g1⟩)
def jU (H:fJ) (P:PAg) (tk:ie):fJ×PAg:=match iq (tk.T P.a.T) H.dp.room H.seen.length with
 | some f=>(H,{P with a:=P.a.stops f,sec:=0})
 | none=>uL P tk (tk.log H P)
def iy (H:fJ) (P:PAg) (frame:List UInt8):fJ×PAg:=match P.a.taken frame with
 | (a1,none)=>(H,{P with a:=a1})
 | (a1,some tk)=>jU H {P with a:=a1} tk
def ia (H:fJ):fJ×(PAg⊕(Nat×Nat×Nat)):=match readAll H with
 | (H1,some f)=>(H1,.inr (12,0,f))
 | (H1,none) =>
  let o:=Az H.seen
  match overS o.2.2 H.dp.room with
  | some t=>(H1,.inr (10,t,0))
  | none=>(H1.mQ o.2.2,.inl ⟨begunA o.2.1 o.2.2,0,o.1⟩)
def pj (mask:Int) (i:Nat):Bool:=decide (mask / 2^(i%60)%2=1)
def fJ.again (H:fJ) (mask cut fail:Int):fJ :=
 {held:=applySel (pj mask) 0 H.late H.held,seen:=applySel (pj mask) 0 H.late H.held,late:=[],fail:=max fail (-1),writes:=H.writes,dp := {H.dp with dead:=false,left:=max cut (-1)}}
def nb (n:Nat) (room:Nat→Int):fJ:=⟨List.replicate n iE,List.replicate n iE,[],-1,0,⟨-1,false,room,[],[]⟩⟩
end Go.Proofs.YtkkfmkhbdoeglaaGreatDoor
namespace Go.Proofs.YtkkfmkhbdoeglaaGreatDoor
open Go.RowKit Go.Shelf
theorem xW (n:Nat) (w:World) (h:32≤n) (h2:n≤128):Calls Tryz.prog 157 #[.int .i64 (n:Nat)] w fun e w'=>e = .returned (.int .i64 (placeOf n:Nat))∧w'=w:=by
 have e:(16*((n:Int)-8)+10+53-1) / 53=(placeOf n:Int):=by unfold placeOf;omega
 have b:=ae e
 clear e
 go_enter Tryz.func157,Tryz.ntmps157
 go_wp2
 go_ret
 exact ⟨yY b.out,rfl⟩
theorem vD (b:Nat) (w:World):Calls Tryz.prog 137 #[.iface 168 (.pointer (some ⟨b,0,none⟩))] w fun e w'=>e = .returned (.pointer (some ⟨w.heap.size,0,none⟩))∧w'=w.alloc (.cells #[.int .i64 12,.int .i64 0,.iface 168 (.pointer (some ⟨b,0,none⟩))] 166):=by
 go_enter Tryz.func137,Tryz.ntmps137
 go_wp2
 go_ret
 exact ⟨rfl,rfl⟩
def xp (w w':World) (v:Value):Option Nat→Prop
 | none=>v = .nilIface
 | some s=>kF w w' v s
def LogAt (w:World) (lg h:Nat) (g:LogS):Prop:=w.heap[lg]?=some (.cells #[.iface 188 (.agg #[.pointer (some ⟨h,0,none⟩)]),.int .u64 (g.stamp:Nat),.int .i64 (g.slot:Nat),.int .i64 (g.next:Nat)] 253 (0,0))
structure HostOk (H:fJ) (B:Nat):Prop where
 n:32≤H.seen.length∧H.seen.length≤128
 hl:H.held.length=H.seen.length
 s64:∀ b∈H.seen,b.length=64
 h64:∀ b∈H.held,b.length=64
 late:∀ x∈H.late,x.1.length=64∧x.2<H.held.length
 fail : -1≤H.fail∧H.fail≤9223372036854775807
 writes:0≤H.writes∧H.writes≤B
 ll:H.late.length≤B
theorem HostOk.mono {H:fJ} {B C:Nat} (h:HostOk H B) (b:B≤C):HostOk H C:=⟨h.n,h.hl,h.s64,h.h64,h.late,h.fail,by have:=h.writes;omega,by have:=h.ll;omega⟩
theorem Bt {n:Int} (h : -1≤n∧n≤9223372036854775807) : -1≤(if n<0 then n else n-1)∧(if n<0 then n else n-1)≤9223372036854775807:=by split <;> omega
theorem HostOk.asked {H:fJ} {B:Nat} (h:HostOk H B):HostOk H.asked B:=⟨h.n,h.hl,h.s64,h.h64,h.late,Bt h.fail,h.writes,h.ll⟩
theorem HostOk.write {H:fJ} {B n:Nat} {s:List UInt8} (h:HostOk H B) (j:n<H.seen.length) (hs:s.length=64):HostOk (H.write n s).1 (B+1)∧(H.write n s).1.seen.length=H.seen.length:=by
 unfold fJ.write
 split
 ·exact ⟨h.asked.mono (by omega),rfl⟩
 ·have l:=h.asked
  refine ⟨⟨by rw [b9];exact h.n,by rw [b9];exact h.hl,fun b i => ?_,h.h64,fun x d => ?_,l.fail,by have:=h.writes;simp only;omega,?_⟩,by rw [b9]⟩
  ·rcases cT i with i | rfl
   ·exact h.s64 b i
   ·exact hs
  ·simp only at d
   split at d
   ·exact h.late x d
   ·rcases bU.1 d with d | d
    ·exact h.late x d
    ·rw [az.1 d]
     exact ⟨hs,by show n<H.held.length;rw [h.hl];exact j⟩
  ·have:=h.ll
   simp only
   split
   ·omega
   ·rw [ar]
    simp
    omega
theorem rR {α:Type} (i:Nat→Bool):∀ (l:List (α×Nat)) (k:Nat) (d:List α) (b : α),b∈applySel i k l d→b∈d∨∃ x∈l,b=x.1
 | [],k,d,b,h => .inl h
 | y::l,k,d,b,h=>by
  unfold applySel at h
  rcases rR i l (k+1) _ b h with h | ⟨x,j,rfl⟩
  ·split at h
   ·rcases cT h with h | rfl
    ·exact .inl h
    ·exact .inr ⟨y,by simp,rfl⟩
   ·exact .inl h
  ·exact .inr ⟨x,by simp [j],rfl⟩
theorem HostOk.flush {H:fJ} {B:Nat} (h:HostOk H B):HostOk H.flush.1 B∧H.flush.1.seen.length=H.seen.length:=by
 have d:=h.asked
 unfold fJ.flush
 split
 ·exact ⟨d,rfl⟩
 ·split
  ·exact ⟨⟨h.n,h.hl,h.s64,h.h64,h.late,d.fail,h.writes,h.ll⟩,rfl⟩
  ·refine ⟨⟨h.n,(jW _ _ _ _).trans h.hl,h.s64,fun b i => ?_,fun x j=>by simp at j,d.fail,h.writes,aL _⟩,rfl⟩
   rcases rR _ _ _ _ _ i with i | ⟨x,j,rfl⟩
   ·exact h.h64 b i
   ·exact (h.late x j).1
end Go.Proofs.YtkkfmkhbdoeglaaGreatDoor
namespace Go.Proofs.YtkkfmkhbdoeglaaGreatDoor
open Go.RowKit Go.Shelf
theorem Cx (h : Nat) (w : World) : (nilAhead 433 188 (.agg #[.pointer (some ⟨h, 0, none⟩)]) "Write").run Tryz.prog w = .ok (some false) w := by kernel_rfl
theorem xf (h : Nat) (w : World) : (method 433 188 (.agg #[.pointer (some ⟨h, 0, none⟩)]) "Write").run Tryz.prog w = .ok (202, .agg #[.pointer (some ⟨h, 0, none⟩)]) w := by kernel_rfl
theorem Cw (h : Nat) (w : World) : (nilAhead 433 188 (.agg #[.pointer (some ⟨h, 0, none⟩)]) "Flush").run Tryz.prog w = .ok (some false) w := by kernel_rfl
theorem xe (h : Nat) (w : World) : (method 433 188 (.agg #[.pointer (some ⟨h, 0, none⟩)]) "Flush").run Tryz.prog w = .ok (199, .agg #[.pointer (some ⟨h, 0, none⟩)]) w := by kernel_rfl
theorem nc (h : Nat) (w : World) : (nilAhead 433 188 (.agg #[.pointer (some ⟨h, 0, none⟩)]) "Sectors").run Tryz.prog w = .ok (some false) w := by kernel_rfl
theorem lh (h : Nat) (w : World) : (method 433 188 (.agg #[.pointer (some ⟨h, 0, none⟩)]) "Sectors").run Tryz.prog w = .ok (201, .agg #[.pointer (some ⟨h, 0, none⟩)]) w := by kernel_rfl
theorem Eb (h : Nat) (w : World) : (nilAhead 433 188 (.agg #[.pointer (some ⟨h, 0, none⟩)]) "Read").run Tryz.prog w = .ok (some false) w := by kernel_rfl
theorem yT (h : Nat) (w : World) : (method 433 188 (.agg #[.pointer (some ⟨h, 0, none⟩)]) "Read").run Tryz.prog w = .ok (200, .agg #[.pointer (some ⟨h, 0, none⟩)]) w := by kernel_rfl
def IF (w:World) (F:Nat→Prop) (lg h:Nat) (H:fJ) (g:LogS) (_dv:Value) (data:List UInt8) (at' B i:Nat) (wr:World):Prop :=
 ∃ (b:fJ) (d:Nat→Prop),HostAt wr d h b∧HostOk b (B+i)∧b.seen.length=H.seen.length∧(∀ k,d k→F k∨w.heap.size≤k)∧Ext (fun k=>F k∨k=lg) w wr∧LogAt wr lg h {g with stamp:=g.stamp+1}∧¬d lg∧
  (∀ k,d k→k<wr.heap.size)∧gD ((gj (g.stamp+1) data).drop i) b (at'+i)=gD (gj (g.stamp+1) data) H at'
theorem Gf (w:World) (a b c:Nat) (ha:a<256) (d:b<256) (hc:c<256):BytesAt (w.alloc (.cells #[.int .u8 (a:Int),.int .u8 (b:Int),.int .u8 (c:Int)] 5)) (.slice (some ⟨w.heap.size,0,none⟩) 3 3) [UInt8.ofNat a,UInt8.ofNat b,UInt8.ofNat c]:=by
 have h:=OwnS.new w #[.int .u8 (a:Int),.int .u8 (b:Int),.int .u8 (c:Int)] 5 0 0 0 1 3 3 (aL _) (by omega) (by decide) (by simp) (.inl (by omega))
 have e:(#[Value.int .u8 (a:Int),.int .u8 (b:Int),.int .u8 (c:Int)].toList.take (3*1))=u8s [UInt8.ofNat a,UInt8.ofNat b,UInt8.ofNat c]:=by
  simp [u8s]
  omega
 rw [e] at h
 exact h.bytes (l:=[UInt8.ofNat a,UInt8.ofNat b,UInt8.ofNat c])
theorem y4 (gb go n cap i j:Nat) (a b:Int) (ha:a=(i:Int)) (l:b=(j:Int)) (m:i≤j) (o:j≤cap) (q:i<cap) (w:World) :
  (Instr.slice 59 (.slice (some ⟨gb,go,none⟩) n cap) (some (.int .i64 a)) (some (.int .i64 b)) none).run Tryz.prog w = .ok (.slice (some ⟨gb,go+i,none⟩) (j-i) (cap-i)) w:=by
 subst ha l
 have hu:Tryz.prog.underlying 59=some (.slice (Tryz.prog.elem 59)):=by kernel_rfl
 have hs:(sizeOf (Tryz.prog.elem 59)).run Tryz.prog w = .ok 1 w:=by kernel_rfl
 rw [run_slice_lh (P:=Tryz.prog) (w:=w) 59 (some ⟨gb,go,none⟩) n cap hu .i64 .i64 (i:Int) (j:Int) (by omega) (by omega) (by omega),hs]
 have d:¬cap=i:=by omega
 simp [Result.andThen,sliced,Addr.add,d]
theorem LogAt.ext {w w':World} {S:Nat→Prop} {lg h:Nat} {g:LogS} (hl:LogAt w lg h g) (b:Ext S w w') (d:¬S lg):LogAt w' lg h g:=b.at d hl
theorem kF.mono {w w1 w':World} {v:Value} {s:Nat} (h:kF w1 w' v s) (hs:w.heap.size≤w1.heap.size):kF w w' v s:=by
 obtain ⟨b,h1,h2,h3⟩:=h
 exact ⟨b,h1,aI hs h2,h3⟩
theorem wZ {H H1:fJ} {g:LogS} {at' f:Nat} {data:List UInt8} (h:gD (gj (g.stamp+1) data) H at'=(H1,some f)):fO H g at' data=(H1,some f):=by
 unfold fO
 rw [h]
theorem tT {H H1:fJ} {g:LogS} {at':Nat} {data:List UInt8} (h:gD (gj (g.stamp+1) data) H at'=(H1,none)):fO H g at' data=H1.flush:=by
 unfold fO
 rw [h]
theorem En {s:Nat} {data:List UInt8} {k:Nat} (hk:k<partsOf data.length):(gj s data).drop k=ju (jm s k (partsOf data.length) (jt data k))::(gj s data).drop (k+1):=by
 have hl:=iU s data
 rw [cd (by omega)]
 congr 1
 unfold gj
 simp
theorem Bg {H:fJ} {n:Nat} {s:List UInt8} (h:H.gW=true):H.write n s=(H.asked,some (n+2)):=by
 unfold fJ.write
 rw [aF h]
theorem C4 {H:fJ} {n:Nat} {s:List UInt8} (h:H.gW=false):(H.write n s).2=none:=by
 unfold fJ.write
 rw [aw (by rw [h];decide)]
theorem Ab {H:fJ} (h:H.gW=true):H.flush=(H.asked,some 1):=by
 unfold fJ.flush
 rw [aF h]
theorem BW {H:fJ} (h:H.gW=false):H.flush.2=none:=by
 unfold fJ.flush
 rw [aw (by rw [h];decide)]
 split <;> rfl
theorem pb (lg h:Nat) (F:Nat→Prop) (H:fJ) (g:LogS) (at' B:Nat) (dv:Value) (data:List UInt8) (w:World) (hl:LogAt w lg h g) (hh:HostAt w F h H) (a4:HostOk H B) (hB:B≤900000000) (a5:¬F lg) (a6:BytesAt w dv data) (bS:∀ k,dv.ownBlock=some k→¬F k∧k≠lg)
  (hp:at'+partsOf data.length≤H.seen.length) (e0:g.stamp<9000000000000000000) :
  Calls Tryz.prog 147 #[.pointer (some ⟨lg,0,none⟩),.int .i64 (at':Nat),dv] w fun e w'=>∃ r,e = .returned r∧xp w w' r (fO H g at' data).2∧LogAt w' lg h {g with stamp:=g.stamp+1}∧ir w F (fun k=>k=lg) h (fO H g at' data).1 w'∧HostOk (fO H g at' data).1 (B+partsOf data.length):=by
 have hn:=a4.n
 have e1:data.length≤53*128:=by unfold partsOf at hp;omega
 obtain ⟨P,hP⟩:∃ P,P=partsOf data.length:=⟨_,rfl⟩
 have bX:((data.length:Int)+53-1) / 53=(P:Int):=by rw [hP];unfold partsOf;omega
 obtain ⟨f0,fB,rfl,e2,-⟩:=a6.opened
 unfold LogAt at hl
 have E:=fI hl
 have c1:=af _ _ 1 _ _ _ hl
 have f1:=ao _ _ 1 _ _ hl
 have b0:IntKind.u64.wrap ((g.stamp:Int)+1)=((g.stamp+1:Nat):Int):=by rw [show ((g.stamp:Int)+1)=((g.stamp+1:Nat):Int) by omega];exact IntWalk.u64_in _ (by omega)
 have c8:=ae bX
 have e3:=ae b0
 rw [←hP] at hp
 have C:=ae hP
 have HL:=ae hl
 have a7:Hid (LogAt (w.setCell ⟨lg,1,none⟩ (.int .u64 (g.stamp+1:Nat))) lg h {g with stamp:=g.stamp+1}):=ae (heap_setCell _ _ 1 _ hl)
 have a9:Hid (Ext (fun k=>F k∨k=lg) w (w.setCell ⟨lg,1,none⟩ (.int .u64 (g.stamp+1:Nat)))):=ae ((Ext.refl _ w).setCell _ _ (.inl (.inr rfl)))
 have ag:Hid (HostAt (w.setCell ⟨lg,1,none⟩ (.int .u64 (g.stamp+1:Nat))) F h H):=ae (hh.frame (by rw [size_setCell];exact ah _) fun k hk=>Below.heap_setCell w ⟨lg,1,none⟩ _ k fun e=>a5 (by rw [←show k=lg from e];exact hk))
 have e4:=ae hh.lt
 have c9:=ae a4
 have b1:=ae a6
 have da:=ae bS
 have dc:=ae a5
 clear hP bX b0 hl hh a4 a6 bS a5
 go_enter Tryz.func147,Tryz.ntmps147
 go_wp2
 rw [show ((g.stamp:Int)+1)=((g.stamp+1:Nat):Int) by omega,c8.out]
 obtain ⟨w1,b2⟩:∃ w1,w1=w.setCell ⟨lg,1,none⟩ (.int .u64 (g.stamp+1:Nat)):=⟨_,rfl⟩
 rw [←b2] at a7 a9 ag⊢
 clear b2 c1 f1
 obtain ⟨S,hS⟩:∃ S,S=g.stamp+1:=⟨_,rfl⟩
 have e5:S≤9000000000000000000:=by omega
 have HS:=ae hS
 rw [←hS]
 clear hS
 have eg:P≤128:=by omega
 go_loopw [25] (fun i wr=>∃ k:Nat,k≤P∧i = .int .i64 (k:Int)∧IF w F lg h H g (.slice f0 data.length fB) data at' B k wr) (fun i _=>P-(intOf i).toNat)
 case atStart=>exact ⟨0,aL _,rfl,H,F,ag.out,c9.out,rfl,fun _ => .inl,a9.out,a7.out,dc.out,ag.out.lt,rfl⟩
 case round =>
  obtain ⟨k,hk,rfl,M,R,r1,r2,r3,r4,r5,V,r7,r8,r9⟩:=hrel
  have ba:=ae r1
  have d:=ae r2
  have G:=ae r4
  have X:=ae r5
  have ak:=ae V
  have Y:=ae r7
  have dT:=ae r8
  have bb:=ae r9
  have b3:=ae r3
  unfold LogAt at V
  simp only at V
  rw [←HS.out] at V
  have c0:wr.cell? ⟨lg,0,none⟩=some (.iface 188 (.agg #[.pointer (some ⟨h,0,none⟩)])):=af _ _ 0 _ _ _ V
  have c1:wr.cell? ⟨lg,1,none⟩=some (.int .u64 (S:Int)):=af _ _ 1 _ _ _ V
  have b4:=fI V
  clear r1 r2 r3 r4 r5 V r7 r8 r9
  by_cases E:k<P
  ·have g1:(k:Int)<P:=by omega
   obtain ⟨N,hN⟩:∃ N,N=(jt data k).length:=⟨_,rfl⟩
   have c3:53*k≤data.length:=by rw [C.out] at E;unfold partsOf at E;omega
   have b5:N=min 53 (data.length-53*k):=by rw [hN];unfold jt;rw [aA,a8]
   have el:N≤53:=by omega
   have bc:min 53 ((data.length:Int)-(k:Int)*53)=(N:Int):=by omega
   have bi:=ae bc
   have HN:=ae hN
   have e6:=ae b5
   obtain ⟨a',c',e',em,b6⟩:=b1.out.opened
   obtain ⟨rfl,-,rfl⟩:=Value.slice.inj e'
   have c5:0<data.length:=by rw [C.out] at E;unfold partsOf at E;omega
   have bP:53*k<data.length:=by rw [C.out] at E;unfold partsOf at E;omega
   obtain ⟨gb,go,rfl,d0⟩:=b6 0 c5
   have d1:∀ w,(Instr.slice 59 (.slice (some ⟨gb,go,none⟩) data.length fB) (some (.int .i64 ((k:Int)*53))) (some (.int .i64 ((k:Int)*53+N))) none).run Tryz.prog w = .ok (.slice (some ⟨gb,go+53*k,none⟩) N (fB-53*k)) w:=fun w=>by
    have:=y4 gb go data.length fB (53*k) (53*k+N) ((k:Int)*53) ((k:Int)*53+N) (by omega) (by omega) (by omega) (by omega) (by omega) w
    rw [show 53*k+N-53*k=N by omega] at this
    exact this
   have b7:(data.take (53*k+N)).drop (53*k)=jt data k:=by
    unfold jt
    rw [List.drop_take]
    rw [show 53*k+N-53*k=N by omega,hN]
    unfold jt
    rw [aA,←List.take_eq_take_min]
   have b8:Hid (∀ W,BytesAt W (.slice (some ⟨gb,go,none⟩) data.length fB) data→BytesAt W (.slice (some ⟨gb,go+53*k,none⟩) N (fB-53*k)) (jt data k)):=ae fun W hW=>by
    have:=hW.sub (53*k) (53*k+N) (by omega) (by omega)
    rw [b7,show 53*k+N-53*k=N by omega] at this
    exact this
   clear bc hN b5 b7 b6 d0 e' c3 bP
   go_wp2_with fail
   rw [bi.out]
   refine (tU wr.heap.size (.slice none 0 0) [] S wr (OwnS.nil _ _ _) (CellsOf.nil _ _) (ah _) (by decide) (by omega)).mono ?_
   rintro e w2 ⟨bv,rfl,J,bk,al⟩
   simp only [aJ,bF,aQ] at J
   have d2:=al.size
   have ca:=ae J
   have cb:=ae bk
   have ce:=ae al
   have H3:=ae (Gf w2 k P N (by omega) (by omega) (by omega))
   have e7:=(al.cell (p:=⟨lg,0,none⟩) b4).trans c0
   obtain ⟨sa,sc,rfl⟩:=J.shape
   clear J bk al
   have bl:Hid (BytesAt wr (.slice (some ⟨gb,go,none⟩) data.length fB) data):=ae (fR.frame b1.out fun b e hb=>X.out.block b hb fun e'=>by
    obtain ⟨q1,q2⟩:=da.out b e
    exact e'.elim q1 q2)
   go_wp2_with (first
    | (at_builtin;refine kc rfl (.tmp 38) (.tmp 45) rfl wr.heap.size (.slice sa 8 sc) 8 (j4 S) rfl (by exact ca.out.below ((Below.refl _ w2).alloc (ah _) _)) (cb.out.alloc _) [UInt8.ofNat k,UInt8.ofNat P,UInt8.ofNat N] (by exact H3.out) (by simp) (by simp;omega) ?_;intro v3 w3 U _ bn cf;simp only [au,aJ,Nat.reduceAdd] at U;have bo:=ae U;have ci:=ae bn;have am:Hid (Below wr.heap.size wr w3):=ae ((ce.out.alloc d2 _).trans cf);clear U bn cf;obtain ⟨e8,e9,rfl⟩:=bo.out.shape)
    | (at_builtin;refine kc rfl (.tmp 47) (.tmp 55) rfl wr.heap.size _ 11 _ rfl bo.out ci.out (jt data k) (by have d6:=b8.out w3 (bl.out.below am.out);exact d6) (by rw [←HN.out];omega) am.out.size ?_;intro v4 w4 ap _ br cl;have bs:=ae ap;have d7:=ae br;have av:Hid (Below wr.heap.size wr w4):=ae (am.out.trans cl);have fb:=(av.out.cell (p:=⟨lg,0,none⟩) b4).trans c0;clear ap br cl))
   have bt:(at':Int)+(k:Int)=((at'+k:Nat):Int):=by omega
   have bw:=ae bt
   clear bt
   have bx:BytesAt w4 v4 (jm S k P (jt data k)):=by
    have h1:=bs.out.bytes (l:=j4 S++[UInt8.ofNat k,UInt8.ofNat P,UInt8.ofNat N]++jt data k) |>.name
    obtain ⟨m,rfl,h2⟩:=h1
    unfold jm
    rw [←HN.out]
    exact h2
   have co:=ae bx
   have cp:∀ b,v4.ownBlock=some b→¬R b:=fun b e hF=>by
    have h1:=bs.out.fU b e
    have h2:=dT.out b hF
    omega
   have d8:=ae cp
   have aE:(jm S k P (jt data k)).length≤64:=by rw [pJ,←HN.out];omega
   have bz:=ae aE
   have cq:=ae (ba.out.below av.out)
   have fd:=Cx h
   have fg:=xf h
   have Z:Hid (at'+k<M.seen.length∧M.seen.length≤1000):=ae (by rw [b3.out];omega)
   have cr:=ae (En (s:=g.stamp+1) (data:=data) (k:=k) (by rw [←C.out];exact E))
   obtain ⟨fi,fk,rfl⟩:=bs.out.shape
   have bD:Hid (LogAt w4 lg h {g with stamp:=g.stamp+1}):=ae (fK av.out (fI ak.out) ak.out)
   have a0:=ae (X.out.trans (Ext.fM av.out))
   clear bx cp aE ag a9 a7 bi b8 bl ca cb ce H3 bo ci am d7 d1
   cases D:M.gW with
   | true =>
    go_wp2_with fail
    rw [bw.out]
    refine (EN h R M (at'+k) _ _ w4 cq.out co.out bz.out Z.out.1 Z.out.2 D).mono ?_
    rintro e w5 ⟨v,rfl,aa,o,u⟩
    have cs:=Bg (n:=at'+k) (s:=ju (jm S k P (jt data k))) D
    have d9:=ae cs
    have bH:=ae aa
    have I:=ae o
    have y:=ae u
    obtain ⟨f2,rfl,-,-⟩:=aa
    clear o u cs
    go_wp2
    go_ret
    have f3:fO H g at' data=(M.asked,some (at'+k+2)):=wZ (by rw [←bb.out,cr.out];unfold gD;rw [←C.out,←HS.out,d9.out])
    refine ⟨_,rfl,?_⟩
    rw [f3]
    exact ⟨bH.out.mono a0.out.size,bD.out.ext y.out Y.out,⟨R,I.out,G.out,a0.out.trans' y.out fun j O=>(G.out j O).imp .inl id⟩,d.out.asked.mono (by rw [←C.out];omega)⟩
   | false =>
    have a1:=d.out.ll
    have c6:=d.out.writes
    go_wp2_with fail
    rw [bw.out]
    refine (C5 h R M (at'+k) _ _ w4 cq.out co.out d8.out bz.out Z.out.1 Z.out.2 D d.out.fail (by omega) (by omega)).mono ?_
    rintro e w5 ⟨rfl,eb⟩
    obtain ⟨F',o,ct,u⟩:=eb
    have bI:Ext R w4 w5:=u.mono fun j O=>O.elim id False.elim
    have I:=ae o
    have y:=ae bI
    have Q:=ae ct
    have ec:=ae (C4 (n:=at'+k) (s:=ju (jm S k P (jt data k))) D)
    have bL:=ae (d.out.write (n:=at'+k) (s:=ju (jm S k P (jt data k))) Z.out.1 (mr bz.out))
    clear o ct u bI a1 c6
    go_wp2
    go_roundw
    case rel =>
     refine ⟨k+1,by omega,by go_num,_,F',I.out,bL.out.1,bL.out.2.trans b3.out,fun j O => ?_,a0.out.trans' y.out fun j O=>(G.out j O).imp .inl id,bD.out.ext y.out Y.out,fun hl => ?_,I.out.lt,?_⟩
     ·rcases Q.out j O with e | e
      ·exact G.out j e
      ·exact .inr (aI a0.out.size e)
     ·rcases Q.out lg hl with e | e
      ·exact Y.out e
      ·have:=fI bD.out
       omega
     ·rw [←bb.out,cr.out,←C.out]
      conv=>rhs;unfold gD
      rw [←HS.out]
      have h1:=ec.out
      generalize M.write (at'+k) (ju (jm S k P (jt data k)))=q at h1⊢
      obtain ⟨q1,q2⟩:=q
      simp only at h1
      subst h1
      rw [aW]
    case measure=>simp [intOf];omega
  ·obtain rfl:k=P:=by omega
   have fl:=Cw h
   have fn:=xe h
   have a2:Hid (gD (gj (g.stamp+1) data) H at'=(M,none)):=ae (by
    rw [←bb.out,fE (by rw [iU,C.out];exact ah _)]
    rfl)
   have a1:=d.out.ll
   cases D:M.gW with
   | true =>
    go_wp2_with fail
    refine (DO h R M wr ba.out D).mono ?_
    rintro e w5 ⟨v,rfl,aa,o,u⟩
    have bH:=ae aa
    have I:=ae o
    have y:=ae u
    have Q:=ae (Ab D)
    obtain ⟨f2,rfl,-,-⟩:=aa
    clear o u
    go_wp2
    go_ret
    refine ⟨_,rfl,?_⟩
    rw [tT a2.out,Q.out]
    exact ⟨bH.out.mono X.out.size,ak.out.ext y.out Y.out,⟨R,I.out,G.out,X.out.trans' y.out fun j O=>(G.out j O).imp .inl id⟩,d.out.asked.mono (by rw [←C.out];omega)⟩
   | false =>
    have ed:=d.out.hl
    go_wp2_with fail
    refine (BX h R M wr ba.out D d.out.fail (by omega) (fun x hx=>(d.out.late x hx).2) (by have:=d.out.n;omega)).mono ?_
    rintro e w5 ⟨rfl,o,u⟩
    have I:=ae o
    have y:=ae u
    have Q:=ae (BW D)
    clear o u ed
    go_wp2
    go_ret
    refine ⟨_,rfl,?_⟩
    rw [tT a2.out,Q.out]
    exact ⟨rfl,ak.out.ext y.out Y.out,⟨R,I.out,G.out,X.out.trans' y.out fun j O=>(G.out j O).imp .inl id⟩,d.out.flush.1.mono (by rw [←C.out];omega)⟩
end Go.Proofs.YtkkfmkhbdoeglaaGreatDoor
namespace Go.Proofs.YtkkfmkhbdoeglaaGreatDoor
open Go.RowKit Go.Shelf
theorem vB:∀ (S:List E),(js S).length=sizeS S
 | []=>rfl
 | x::S=>by
  have e:js (x::S)=jz x++js S:=rfl
  have b:sizeS (x::S)=1+x.1.2.length+x.2.length+sizeS S:=rfl
  rw [e,b,ar,vB S]
  unfold jz
  simp
  omega
theorem lH (v:Nat) (S:List E):(gH v S).length=10+sizeS S:=by
 unfold gH
 rw [ar,ar,fY,vB]
 rfl
theorem ir.gw {w w1 w':World} {F S:Nat→Prop} {h:Nat} {H:fJ} (b:Below w.heap.size w w1) (d:ir w1 F S h H w'):ir w F S h H w':=by
 obtain ⟨F',h1,h2,h3⟩:=d
 exact ⟨F',h1,fun k hk=>(h2 k hk).imp id (fun e=>aI b.size e),(Ext.fM b).trans h3⟩
theorem ir.y7 {w w':World} {F S:Nat→Prop} {h lg:Nat} {H:fJ} (b:ir w F S h H w') (d:S lg) (hF:¬F lg) (l:lg<w.heap.size) (i:Nat) (v:Value):ir w F S h H (w'.setCell ⟨lg,i,none⟩ v):=by
 obtain ⟨F',h1,h2,h3⟩:=b
 refine ⟨F',h1.frame (by rw [size_setCell];exact ah _) fun k hk=>Below.heap_setCell w' ⟨lg,i,none⟩ v k fun e => ?_,h2,h3.setCell _ _ (.inl (.inr d))⟩
 have j:k=lg:=e
 rcases h2 k hk with h | h
 ·exact hF (j▸h)
 ·omega
theorem tS (lg h:Nat) (F:Nat→Prop) (H:fJ) (g:LogS) (B q off r v:Nat) (T:List E) (w:World) (hl:LogAt w lg h g) (I:HostAt w F h H) (y:HostOk H B) (hB:B≤900000000) (J:¬F lg) (he:EntAt w q off r T)
  (bw:g.slot<2) (bx:sizeS T≤16*(H.seen.length-8)) (hT:T.length<65536) (hv:v<18446744073709551616) (a0:∀ x∈T,0≤x.1.1∧x.1.1<256∧x.1.2.length≤100∧x.2.length≤100) (a1:g.stamp<9000000000000000000) :
  Calls Tryz.prog 146 #[.pointer (some ⟨lg,0,none⟩),.int .u64 (v:Nat),.pointer (some ⟨q,off,none⟩)] w fun e w'=>∃ r,e = .returned r∧xp w w' r (fT H g v T).2.2∧LogAt w' lg h (fT H g v T).2.1∧ir w F (fun k=>k=lg) h (fT H g v T).1 w'∧HostOk (fT H g v T).1 (B+128):=by
 have X:=y.n
 have Z:=jf X.1 X.2
 have a2:partsOf (gH v T).length≤placeOf H.seen.length:=mB (by rw [lH];omega)
 obtain ⟨pl,M⟩:∃ pl,pl=placeOf H.seen.length:=⟨_,rfl⟩
 have aa:(1-g.slot)*placeOf H.seen.length+partsOf (gH v T).length≤H.seen.length:=by
  rcases (show g.slot=0∨g.slot=1 by omega) with e | e <;> rw [e] <;> omega
 have ab:=fun (dv:Value) (W:World) (Y:Below w.heap.size w W) (a3:BytesAt W dv (gH v T)) (a4:∀ k,dv.ownBlock=some k→¬F k∧k≠lg)=>ae (pb lg h F H g ((1-g.slot)*placeOf H.seen.length) B dv (gH v T) W (fK Y (fI hl) hl) (I.below Y) y hB J a3 a4 aa a1)
 have a5:=ae (nV h F H w I)
 have bz:=nc h
 have bD:=lh h
 have ag:=fun (W:World) (Y:Below w.heap.size w W)=>ae (Ba q off r v T W (he.below Y) hT hv a0)
 have HH:=ae I
 have HL:=ae hl
 have a6:=ae I.lt
 have bH:=ae y
 have i:=hl
 unfold LogAt at i
 have c0:w.cell? ⟨lg,0,none⟩=some (.iface 188 (.agg #[.pointer (some ⟨h,0,none⟩)])):=af _ _ 0 _ _ _ i
 have c2:w.cell? ⟨lg,2,none⟩=some (.int .i64 (g.slot:Int)):=af _ _ 2 _ _ _ i
 have N:=fI i
 have a7:=ae Z
 have ak:=ae M
 have l:(1:Int)-(g.slot:Int)=((1-g.slot:Nat):Int):=by omega
 have a9:=ae l
 obtain ⟨A,hA⟩:∃ A,A=(1-g.slot)*placeOf H.seen.length:=⟨_,rfl⟩
 have al:wrap64 ((1-(g.slot:Int))*(pl:Int))=(A:Int):=by
  rw [l,←Int.natCast_mul,hA,←M]
  have hm:(1-g.slot)*pl≤1*pl:=cS _ (by omega)
  generalize (1-g.slot)*pl=m at hm⊢
  exact IntWalk.wrap64_in (m:Int) (by omega)
 have HA:=ae hA
 have bb:=ae al
 clear hA al
 have bn:pl≤37:=by omega
 clear hl i I y a2 aa M l Z
 go_enter Tryz.func146,Tryz.ntmps146
 go_wp2_with fail
 refine a5.out.mono ?_
 rintro e w1 ⟨rfl,O⟩
 have D:=ae O
 have d2:=(O.cell (p:=⟨lg,2,none⟩) N).trans c2
 clear c0 c2 O
 go_wp2_with fail
 refine (xW H.seen.length w1 X.1 X.2).mono ?_
 rintro e bc ⟨rfl,rfl⟩
 rw [←ak.out]
 go_wp2_with fail
 refine (ag bc D.out).out.mono ?_
 rintro e w2 ⟨bv,rfl,d,am⟩
 rw [bb.out]
 have o:=D.out.trans (am.mono D.out.size)
 have R:=ab bv w2 o d.bytes (fun k e=>by
  have h1:=d.fU k e
  have h2:=D.out.size
  exact ⟨fun hF=>by have:=a6.out k hF;omega,by omega⟩)
 have s:=ae o
 obtain ⟨bI,bL,rfl⟩:=d.shape
 clear ab ag o d am
 go_wp2_with fail
 rw [←HA.out] at R
 refine R.out.mono ?_
 rintro e w3 ⟨rv,rfl,j,b,S,u⟩
 have G:Hid (fT H g v T=Ci g H.seen.length (fO H g A (gH v T))):=ae (by unfold fT;rw [HA.out])
 have bM:partsOf (gH v T).length≤128:=by
  have:=a7.out
  have h2:partsOf (gH v T).length≤placeOf H.seen.length:=mB (by rw [lH];omega)
  omega
 obtain ⟨Q,hQ⟩:∃ Q,Q=fO H g A (gH v T):=⟨_,rfl⟩
 rw [←hQ] at j S u G
 obtain ⟨H1,rf⟩:=Q
 have ap:=ae b
 have U:=ae S
 have V:=ae (u.mono (C:=B+128) (by omega))
 clear S u hQ R
 simp only at j U V G
 cases rf with
 | some f =>
  have bl:=ae (show kF w2 w3 rv f from j)
  obtain ⟨eb,rfl,-,-⟩:=j
  clear b
  go_wp2
  go_ret
  refine ⟨_,rfl,?_⟩
  rw [G.out]
  exact ⟨bl.out.mono s.out.size,ap.out,ir.gw s.out U.out,V.out⟩
 | none =>
  obtain rfl:rv = .nilIface:=j
  unfold LogAt at b
  have c2:w3.cell? ⟨lg,2,none⟩=some (.int .i64 (g.slot:Int)):=af _ _ 2 _ _ _ b
  have c3:w3.cell? ⟨lg,3,none⟩=some (.int .i64 (g.next:Int)):=af _ _ 3 _ _ _ b
  have f2:=ao _ _ 2 _ _ b
  have f3:=ao _ _ 3 _ _ b
  have bt:=fI b
  clear b
  go_wp2
  go_ret
  refine ⟨_,rfl,?_⟩
  rw [G.out,a9.out,show (2:Int)*(pl:Int)=((2*placeOf H.seen.length:Nat):Int) by rw [←ak.out];omega]
  refine ⟨rfl,heap_setCell _ _ 3 _ (heap_setCell _ _ 2 _ ap.out),((ir.gw s.out U.out).y7 rfl J N _ _).y7 rfl J N _ _,V.out⟩
theorem EO (H:fJ) (n:Nat) (s:List UInt8):(H.write n s).1.seen.length=H.seen.length:=by
 unfold fJ.write
 split
 ·rfl
 ·exact b9
theorem DP (H:fJ):H.flush.1.seen.length=H.seen.length:=by
 unfold fJ.flush
 split
 ·rfl
 ·split <;> rfl
theorem wK:∀ (l:List (List UInt8)) (H:fJ) (n:Nat),(gD l H n).1.seen.length=H.seen.length
 | [],_,_=>rfl
 | s::l,H,n=>by
  unfold gD
  have h1:=EO H n s
  generalize H.write n s=q at h1⊢
  obtain ⟨b,d⟩:=q
  cases d with
  | some f=>exact h1
  | none=>exact (wK l b (n+1)).trans h1
theorem yS (H:fJ) (g:LogS) (at':Nat) (data:List UInt8):(fO H g at' data).1.seen.length=H.seen.length:=by
 unfold fO
 have h1:=wK (gj (g.stamp+1) data) H at'
 generalize gD (gj (g.stamp+1) data) H at'=q at h1⊢
 obtain ⟨b,d⟩:=q
 cases d with
 | some f=>exact h1
 | none=>exact (DP b).trans h1
theorem Al {H:fJ} {g:LogS} {v:Nat} {T:List E} (h:(fT H g v T).2.2=none):(fT H g v T).2.1=⟨g.stamp+1,1-g.slot,2*placeOf H.seen.length⟩∧(fT H g v T).1.seen.length=H.seen.length:=by
 unfold fT at h⊢
 have h1:=yS H g ((1-g.slot)*placeOf H.seen.length) (gH v T)
 generalize fO H g ((1-g.slot)*placeOf H.seen.length) (gH v T)=q at h h1⊢
 obtain ⟨d,b⟩:=q
 cases b with
 | some f=>cases h
 | none=>exact ⟨rfl,h1⟩
theorem Cr (lg h:Nat) (F:Nat→Prop) (H:fJ) (g:LogS) (B q off r v:Nat) (T:List E) (dv:Value) (b:List UInt8) (w:World) (hl:LogAt w lg h g) (hh:HostAt w F h H) (aa:HostOk H B) (hB:B≤800000000) (O:¬F lg) (he:EntAt w q off r T) (_hq:¬F q∧q≠lg) (_hr:¬F r∧r≠lg)
  (bN:g.slot<2) (bO:sizeS T≤16*(H.seen.length-8)) (hT:T.length<65536) (hv:v<18446744073709551616) (bP:∀ x∈T,0≤x.1.1∧x.1.1<256∧x.1.2.length≤100∧x.2.length≤100) (cp:g.stamp<8999999999999999999)
  (al:BytesAt w dv b) (a7:∀ k,dv.ownBlock=some k→¬F k∧k≠lg∧k<w.heap.size) (cq:b.length≤700) (cr:g.next≤H.seen.length) :
  Calls Tryz.prog 119 #[.pointer (some ⟨lg,0,none⟩),dv,.int .u64 (v:Nat),.pointer (some ⟨q,off,none⟩)] w fun e w'=>∃ r,e = .returned r∧xp w w' r (gR H g b v T).2.2∧LogAt w' lg h (gR H g b v T).2.1∧ir w F (fun k=>k=lg) h (gR H g b v T).1 w'∧HostOk (gR H g b v T).1 (B+256):=by
 have hn:=aa.n
 have cs:=jf hn.1 hn.2
 obtain ⟨P,hP⟩:∃ P,P=partsOf b.length:=⟨_,rfl⟩
 have a9:((b.length:Int)+53-1) / 53=(P:Int):=by rw [hP];unfold partsOf;omega
 have ci:P≤14:=by rw [hP];unfold partsOf;omega
 have bX:=ae a9
 have y:=ae hP
 have b0:=ae (nV h F H)
 have am:=ae (fun (W:World) (hW:Below w.heap.size w W)=>tS lg h F H g B q off r v T W (fK hW (fI hl) hl) (hh.below hW) aa (by omega) O (he.below hW) bN bO hT hv bP (by omega))
 have ct:=nc h
 have cu:=lh h
 obtain ⟨da,dc,rfl,cv,-⟩:=al.opened
 have R:=hl
 unfold LogAt at R
 have c0:w.cell? ⟨lg,0,none⟩=some (.iface 188 (.agg #[.pointer (some ⟨h,0,none⟩)])):=af _ _ 0 _ _ _ R
 have c3:w.cell? ⟨lg,3,none⟩=some (.int .i64 (g.next:Int)):=af _ _ 3 _ _ _ R
 have ab:=fI R
 have HH:=ae hh
 have HL:=ae hl
 have cB:=ae hh.lt
 have b2:=ae aa
 have ba:=ae al
 have G:=ae a7
 clear hl R hh aa al a7 hP a9
 go_enter Tryz.func119,Tryz.ntmps119
 go_wp2
 rw [bX.out]
 go_region_held3 (fun w'=>w'.cell? ⟨lg,0,none⟩=some (.iface 188 (.agg #[.pointer (some ⟨h,0,none⟩)]))∧w'.cell? ⟨lg,3,none⟩=some (.int .i64 (g.next:Int)))
  (first | exact ⟨c0,c3⟩ | exact ⟨(m.out.cell (p:=⟨lg,0,none⟩) ab).trans c0,(m.out.cell (p:=⟨lg,3,none⟩) ab).trans c3⟩)
  (first | (go_at_call 201;refine (b0.out _ (by first | exact HH.out | exact HH.out.frame (ah _) (fun _ _=>rfl))).mono ?_;rintro e w1 ⟨rfl,ap⟩;have m:Hid (Below w.heap.size w w1):=ae (by first | exact ap | exact (Below.rf w).drew.tn ap);clear ap))
 rw [show IntKind.i64.wrap ((g.next:Int)+(P:Int))=((g.next+P:Nat):Int) by rw [←Int.natCast_add];exact IntWalk.i64_in _ (by omega)]
 obtain ⟨Y,hY⟩:∃ Y,Y=g.next+P:=⟨_,rfl⟩
 rw [←hY]
 have HY:=ae hY
 by_cases bb:H.seen.length<Y
 ·have bs:(H.seen.length:Int)<(Y:Int):=by omega
  clear hY c0 c3
  go_wp2_with fail
  refine (am.out w1 m.out).mono ?_
  rintro e M ⟨S,rfl,i,d,o,j⟩
  obtain ⟨Q,D⟩:∃ Q,Q=fT H g v T:=⟨_,rfl⟩
  have N:Hid (gR H g b v T=FM b Q):=ae (by unfold gR;rw [aF (by rw [←y.out,←HY.out];exact bb),←D])
  have bc:Hid (Q.2.2=none→Q.2.1=⟨g.stamp+1,1-g.slot,2*placeOf H.seen.length⟩∧Q.1.seen.length=H.seen.length):=ae (by rw [D];exact Al)
  rw [←D] at i d o j
  obtain ⟨H1,g1,rf⟩:=Q
  have C:=ae d
  have s:=ae o
  have u:=ae j
  clear o j D am
  simp only at i s u N bc C
  cases rf with
  | some f =>
   have U:=ae (show kF w1 M S f from i)
   obtain ⟨eb,rfl,-,-⟩:=i
   clear d
   go_wp2
   go_ret
   refine ⟨_,rfl,?_⟩
   rw [N.out]
   exact ⟨U.out.mono m.out.size,C.out,ir.gw m.out s.out,u.out.mono (by omega)⟩
  | none =>
  obtain rfl:S = .nilIface:=i
  have I:Hid (gR H g b v T=gI H1 g1 b):=ae N.out
  obtain ⟨F1,bi,bk,bl⟩:=ir.gw m.out s.out
  have b5:=ae bi
  have ag:=ae bk
  have ak:=ae bl
  have b6:=u
  obtain ⟨av,b7⟩:=bc.out rfl
  have aE:g1.next=2*placeOf H.seen.length:=by rw [av]
  have bv:g1.stamp=g.stamp+1:=by rw [av]
  have a0:¬F1 lg:=fun e=>(ag.out lg e).elim O (fun h=>by omega)
  have bw:=ae a0
  have bx:Hid (BytesAt M (.slice da b.length dc) b):=ae (fR.frame ba.out fun k e hk=>ak.out.block k hk fun e'=>e'.elim (G.out k e).1 (G.out k e).2.1)
  have bz:Hid (∀ k,(Value.slice da b.length dc).ownBlock=some k→¬F1 k∧k≠lg):=ae fun k e=>⟨fun hF=>(ag.out k hF).elim (G.out k e).1 (fun h=>by have:=(G.out k e).2.2;omega),(G.out k e).2.1⟩
  have b8:Hid (g1.next+partsOf b.length≤H1.seen.length):=ae (by rw [b7,aE,←y.out];omega)
  have bD:Hid (g1.stamp<9000000000000000000):=ae (by omega)
  have ca:g1.next+P≤1000:=by omega
  have V:=C.out
  have l:=V
  clear bi bk bl av bv a0 aE d
  unfold LogAt at l
  have e0:M.cell? ⟨lg,0,none⟩=some (.iface 188 (.agg #[.pointer (some ⟨h,0,none⟩)])):=af _ _ 0 _ _ _ l
  have e3:M.cell? ⟨lg,3,none⟩=some (.int .i64 (g1.next:Int)):=af _ _ 3 _ _ _ l
  have bI:=fI l
  have X:=ae (pb lg h F1 H1 g1 g1.next (B+128) (.slice da b.length dc) b M V b5.out b6.out (by omega) bw.out bx.out bz.out b8.out bD.out)
  clear l
  go_wp2_with fail
  refine X.out.mono ?_
  rintro e w5 ⟨S,rfl,i,d,o,j⟩
  obtain ⟨Q,D⟩:∃ Q,Q=fO H1 g1 g1.next b:=⟨_,rfl⟩
  have J:Hid (gI H1 g1 b=qf g1 b Q):=ae (by unfold gI;rw [←D])
  rw [←D] at i o j
  obtain ⟨H5,rf⟩:=Q
  have C:=ae d
  have s:=ae o
  have u:=ae j
  clear o j D X e0 e3
  simp only at i s u J
  cases rf with
  | some f =>
   have U:=ae (show kF M w5 S f from i)
   obtain ⟨eb,rfl,-,-⟩:=i
   clear d
   go_wp2
   go_ret
   refine ⟨_,rfl,?_⟩
   rw [I.out,J.out]
   exact ⟨U.out.mono ak.out.size,C.out,ir.trans ag.out ak.out s.out,u.out.mono (by rw [←y.out];omega)⟩
  | none =>
   obtain rfl:S = .nilIface:=i
   unfold LogAt at d
   have d3:w5.cell? ⟨lg,3,none⟩=some (.int .i64 (g1.next:Int)):=af _ _ 3 _ _ _ d
   have f3:=ao _ _ 3 _ _ d
   have bL:=fI d
   have Z:((g1.next:Int)+(P:Int))=((g1.next+partsOf b.length:Nat):Int):=by rw [y.out];omega
   have a1:=ae Z
   have bM:g1.next≤1000:=by omega
   clear d Z
   go_wp2
   go_ret
   refine ⟨_,rfl,?_⟩
   rw [I.out,J.out,a1.out]
   exact ⟨rfl,heap_setCell _ _ 3 _ C.out,(ir.trans ag.out ak.out s.out).y7 rfl O ab _ _,u.out.mono (by rw [←y.out];omega)⟩
 ·have bs:¬(H.seen.length:Int)<(Y:Int):=by omega
  have I:Hid (gR H g b v T=gI H g b):=ae (by unfold gR;rw [aw (by rw [←y.out,←HY.out];exact bb)])
  have V:LogAt w1 lg h g:=fK m.out (fI HL.out) HL.out
  have l:=V
  have cb:g.next+P≤H.seen.length:=by omega
  have ca:g.next+P≤1000:=by omega
  clear hY c0 c3 am
  unfold LogAt at l
  have e0:w1.cell? ⟨lg,0,none⟩=some (.iface 188 (.agg #[.pointer (some ⟨h,0,none⟩)])):=af _ _ 0 _ _ _ l
  have e3:w1.cell? ⟨lg,3,none⟩=some (.int .i64 (g.next:Int)):=af _ _ 3 _ _ _ l
  have bI:=fI l
  have X:=ae (pb lg h F H g g.next (B) (.slice da b.length dc) b w1 V (HH.out.below m.out) b2.out (by omega) O (ba.out.below m.out) (fun k e=>⟨(G.out k e).1,(G.out k e).2.1⟩) (by rw [←y.out];exact cb) (by omega))
  clear l
  go_wp2_with fail
  refine X.out.mono ?_
  rintro e w5 ⟨S,rfl,i,d,o,j⟩
  obtain ⟨Q,D⟩:∃ Q,Q=fO H g g.next b:=⟨_,rfl⟩
  have J:Hid (gI H g b=qf g b Q):=ae (by unfold gI;rw [←D])
  rw [←D] at i o j
  obtain ⟨H5,rf⟩:=Q
  have C:=ae d
  have s:=ae o
  have u:=ae j
  clear o j D X e0 e3
  simp only at i s u J
  cases rf with
  | some f =>
   have U:=ae (show kF w1 w5 S f from i)
   obtain ⟨eb,rfl,-,-⟩:=i
   clear d
   go_wp2
   go_ret
   refine ⟨_,rfl,?_⟩
   rw [I.out,J.out]
   exact ⟨U.out.mono m.out.size,C.out,ir.gw m.out s.out,u.out.mono (by rw [←y.out];omega)⟩
  | none =>
   obtain rfl:S = .nilIface:=i
   unfold LogAt at d
   have d3:w5.cell? ⟨lg,3,none⟩=some (.int .i64 (g.next:Int)):=af _ _ 3 _ _ _ d
   have f3:=ao _ _ 3 _ _ d
   have bL:=fI d
   have Z:((g.next:Int)+(P:Int))=((g.next+partsOf b.length:Nat):Int):=by rw [y.out];omega
   have a1:=ae Z
   have bM:g.next≤1000:=by omega
   clear d Z
   go_wp2
   go_ret
   refine ⟨_,rfl,?_⟩
   rw [I.out,J.out,a1.out]
   exact ⟨rfl,heap_setCell _ _ 3 _ C.out,(ir.gw m.out s.out).y7 rfl O ab _ _,u.out.mono (by rw [←y.out];omega)⟩
end Go.Proofs.YtkkfmkhbdoeglaaGreatDoor
