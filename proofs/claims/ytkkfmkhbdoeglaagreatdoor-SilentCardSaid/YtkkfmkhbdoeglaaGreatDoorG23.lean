/- A part of what is proved here: lemmas and contracts of single functions. No condition but those that each names. -/
import Derived.Test.YtkkfmkhbdoeglaaGreatDoorG00
import Derived.Deep.CutBlock
import Derived.Test.YtkkfmkhbdoeglaaGreatDoorG07
import Derived.Test.YtkkfmkhbdoeglaaGreatDoorG09
import Derived.Test.YtkkfmkhbdoeglaaGreatDoorG11
import Derived.Test.YtkkfmkhbdoeglaaGreatDoorG19
import Derived.Test.YtkkfmkhbdoeglaaGreatDoorG21
import Derived.Test.YtkkfmkhbdoeglaaGreatDoorG22
set_option maxHeartbeats 4000000
set_option maxRecDepth 100000
namespace Go.Proofs.YtkkfmkhbdoeglaaGreatDoor
open Go.RowKit
def Cu.ent (c:Cu) (last:K):Cu×Option E :=
 let a:=c.take 1
 let T:Int:=((a.2.headD 0).toNat:Int)
 let c1:=a.1.ja (decide (T<3)) 6
 match c1.f with
 | some _=>(c1,none)
 | none =>
  let b:=c1.take (fB T)
  let c2:=(b.1.ja (gR T b.2) 7).ja (decide (nX last (T,b.2)<0)) 14
  let d:=c2.take (fO T)
  (d.1.ja (gi T d.2) 9,some ((T,b.2),d.2))
def gY:Nat→Cu→K→List E→Cu×List E
 | 0,c,_,S=>(c,S)
 | n+1,c,last,S =>
  match c.f with
  | some _=>(c,S)
  | none =>
   match c.ent last with
   | (c',none)=>(c',S)
   | (c',some x)=>gY n c' x.1 (jS x.1 x.2 S)
def im (l:List UInt8):(Nat×List E)⊕(Nat×Nat) :=
 let a:=Cu.take ⟨l,0,0,none⟩ 8
 let b:=(a.1.ja (isVersionB (iw a.2)) 4).take 2
 let L:=gY ((b.2.getD 0 0).toNat*256+(b.2.getD 1 0).toNat) b.1 (-1,[]) []
 match L.1.ended.f with
 | some f => .inr f
 | none => .inl (iw a.2,L.2)
theorem qy {c:Cu} {ok:Bool} {k:Nat} (h:(c.ja ok k).f=none):c.f=none∧ok=true:=by
 obtain ⟨l,a,t,f⟩:=c
 cases f with
 | some f=>simp [Cu.ja] at h
 | none=>cases ok <;> simp [Cu.ja] at h⊢
theorem ED {c:Cu} {n:Nat} (h:(c.take n).1.f=none):c.f=none:=by
 obtain ⟨l,a,t,f⟩:=c
 cases f with
 | some f=>simp [Cu.take] at h
 | none=>rfl
theorem p8 {n:Nat} {c:Cu} {last:K} {S:List E} {f:Nat×Nat} (h:c.f=some f):(gY n c last S).1=c:=by
 cases n with
 | zero=>rfl
 | succ n=>unfold gY;rw [h]
theorem oh {n:Nat} {c c':Cu} {last:K} {S:List E} {x:E} (b:c.f=none) (h:c.ent last=(c',some x)):gY (n+1) c last S=gY n c' x.1 (jS x.1 x.2 S):=by
 conv=>lhs;unfold gY
 rw [b,h]
theorem qd {n:Nat} {c c':Cu} {last:K} {S:List E} (b:c.f=none) (h:c.ent last=(c',none)):gY (n+1) c last S=(c',S):=by
 conv=>lhs;unfold gY
 rw [b,h]
theorem Cl {c:Cu} {last:K} {t:UInt8} {f:Nat×Nat} (b:(c.take 1).2=[t]) (d:((c.take 1).1.ja (decide ((t.toNat:Int)<3)) 6).f=some f):c.ent last=((c.take 1).1.ja (decide ((t.toNat:Int)<3)) 6,none):=by
 unfold Cu.ent
 simp only [b,eR,d]
theorem Gx {c c1:Cu} {last:K} {t:UInt8} (i:(c.take 1).2=[t]) (h1:c1=(c.take 1).1.ja (decide ((t.toNat:Int)<3)) 6) (j:c1.f=none) {T:Int} (l:T=t.toNat) {b d:Cu×List UInt8} {c2:Cu} (m:b=c1.take (fB T)) (h2:c2=(b.1.ja (gR T b.2) 7).ja (decide (nX last (T,b.2)<0)) 14) (hd:d=c2.take (fO T)) :
  c.ent last=(d.1.ja (gi T d.2) 9,some ((T,b.2),d.2)):=by
 subst hd h2 m l
 unfold Cu.ent
 simp only [i,eR,←h1,j]
theorem BM {w:World} (h:ShapesVar w) (t:UInt8) (b:t.toNat<3):w.cell? ⟨1,t.toNat*2,none⟩=some (.int .i64 (fB (t.toNat:Int))):=by
 have:t.toNat=0∨t.toNat=1∨t.toNat=2:=by omega
 rcases this with e | e | e <;> rw [e]
 ·exact h.c0
 ·exact h.c2
 ·exact h.c4
theorem tT {w:World} (h:ShapesVar w) (t:UInt8) (b:t.toNat<3):w.cell? ⟨1,t.toNat*2+1,none⟩=some (.int .i64 (fO (t.toNat:Int))):=by
 have:t.toNat=0∨t.toNat=1∨t.toNat=2:=by omega
 rcases this with e | e | e <;> rw [e]
 ·exact h.c1
 ·exact h.c3
 ·exact h.c5
theorem Bs (w:World) (q:Nat) (os:Array Obj):Below w.heap.size w (Sort.grow (w.drewN q) os):=by
 refine ⟨rfl,rfl,rfl,?_,fun k hk => ?_⟩
 ·show w.heap.size≤(w.heap++os).size
  rw [Array.size_append];omega
 ·show (w.heap++os)[k]?=_
  exact eJ hk
theorem rO (T:Int):fB T≤100:=by unfold fB;split <;> (try split) <;> omega
theorem AO (T:Int):1≤fB T:=by unfold fB;split <;> (try split) <;> omega
theorem rI (T:Int):fO T≤100:=by unfold fO;split <;> (try split) <;> omega
theorem Ac (T:Int):1≤fO T:=by unfold fO;split <;> (try split) <;> omega
structure j8 (w5:World) (base c r Bl:Nat) (cu:Cu) (last:K) (S:List E) (W:World):Prop where
 cur:CurAt W base c cu
 tab:TabAt W r S
 cell:W.cell? ⟨r+1,0,none⟩=some (.map (some r))
 box:W.heap[Bl]?=some (.cells #[.int .i64 last.1,.string ⟨last.2.toArray⟩] 94 (0,0))
 shp:ShapesVar W
 ext:Ext (fun i=>i=c∨i=r∨i=Bl) w5 W
 geo:2≤base∧base≤c∧c<r∧r+1<Bl∧Bl<w5.heap.size
section
variable {w5 W W':World} {base c r Bl:Nat} {cu cu':Cu} {last:K} {S S':List E}
theorem j8.size (h:j8 w5 base c r Bl cu last S W):w5.heap.size≤W.heap.size:=h.ext.size
theorem j8.yc (h:j8 w5 base c r Bl cu last S W) (b:W.grownBy W' (some c)) (hc:CurAt W' base c cu'):j8 w5 base c r Bl cu' last S W':=by
 obtain ⟨g1,g2,g3,g4,g5⟩:=h.geo
 have hs:=h.size
 exact ⟨hc,h.tab.fP (b.block r h.tab.lt (fun e=>by cases e;omega)),(aQ (a:=⟨r+1,0,none⟩) (b.block (r+1) (by omega) (fun e=>by cases e;omega))).trans h.cell,
  (b.block Bl (by omega) (fun e=>by cases e;omega)).trans h.box,h.shp.grown b (by omega),h.ext.grow b (.inl (.inl rfl)),h.geo⟩
theorem j8.fresh (h:j8 w5 base c r Bl cu last S W) (b:Below W.heap.size W W'):j8 w5 base c r Bl cu last S W':=by
 obtain ⟨g1,g2,g3,g4,g5⟩:=h.geo
 have hs:=h.size
 exact ⟨h.cur.fP b,h.tab.fP (b.block r h.tab.lt),(b.cell (p:=⟨r+1,0,none⟩) (show r+1<_ by omega)).trans h.cell,(b.block Bl (by omega)).trans h.box,h.shp.new b,h.ext.sK b,h.geo⟩
theorem j8.put (h:j8 w5 base c r Bl cu last S W) (b:W.grownBy W' (some r)) (d:TabAt W' r S'):j8 w5 base c r Bl cu last S' W':=by
 obtain ⟨g1,g2,g3,g4,g5⟩:=h.geo
 have hs:=h.size
 refine ⟨h.cur.grown b g3 ?_,d,(aQ (a:=⟨r+1,0,none⟩) (b.block (r+1) (by omega) (fun e=>by simp at e))).trans h.cell,
  (b.block Bl (by omega) (fun e=>by cases e;omega)).trans h.box,h.shp.grown b (by omega),h.ext.grow b (.inl (.inr (.inl rfl))),h.geo⟩
 obtain ⟨-,L,hm,-⟩:=h.tab
 exact hm.jA
theorem j8.step (h:j8 w5 base c r Bl cu last S W) (k:K):j8 w5 base c r Bl cu k S ((W.setCell ⟨Bl,0,none⟩ (.int .i64 k.1)).setCell ⟨Bl,1,none⟩ (.string ⟨k.2.toArray⟩)):=by
 obtain ⟨g1,g2,g3,g4,g5⟩:=h.geo
 have hs:=h.size
 have b:W.grownBy ((W.setCell ⟨Bl,0,none⟩ (.int .i64 k.1)).setCell ⟨Bl,1,none⟩ (.string ⟨k.2.toArray⟩)) (some Bl):=fY (grownBy_set (Below.refl _ W) 0 _) 1 _
 exact ⟨h.cur.grown b (by omega) (fun d m e=>by rw [h.box] at e;simp at e),h.tab.fP (b.block r h.tab.lt (fun e=>by cases e;omega)),(aQ (a:=⟨r+1,0,none⟩) (b.block (r+1) (by omega) (fun e=>by cases e;omega))).trans h.cell,
  heap_setCell _ _ 1 _ (heap_setCell _ _ 0 _ h.box),h.shp.grown b (by omega),h.ext.grow b (.inl (.inr (.inr rfl))),h.geo⟩
theorem j8.Hf (h:j8 w5 base c r Bl cu last S W) {B:Nat} {C:Array Value} {T:TypeId} {fz:Nat×Nat} (d:W.heap[B]?=some (.cells C T fz)) (hl:Bl<B) (i:T≠166) (b:W.grownBy W' (some B)) (h5:w5.heap.size≤B):j8 w5 base c r Bl cu last S W':=by
 obtain ⟨g1,g2,g3,g4,g5⟩:=h.geo
 have hs:=h.size
 exact ⟨h.cur.grown b (by omega) (fun j m e=>by rw [d] at e;injection e with e;injection e with _ e _;exact i e),h.tab.fP (b.block r h.tab.lt (fun e=>by cases e;omega)),(aQ (a:=⟨r+1,0,none⟩) (b.block (r+1) (by omega) (fun e=>by cases e;omega))).trans h.cell,
  (b.block Bl (by omega) (fun e=>by cases e;omega)).trans h.box,h.shp.grown b (by omega),h.ext.grow b (.inr h5),h.geo⟩
theorem j8.boxes (_h:j8 w5 base c r Bl cu last S W) {B:Nat} {o:Obj} (b:W.heap[B]?=some o) (hc:c<B) (d:W.grownBy W' (some c)):W'.heap[B]?=some o :=
 (d.block B (fw b) (fun e=>by cases e;omega)).trans b
end
end Go.Proofs.YtkkfmkhbdoeglaaGreatDoor
namespace Go.Proofs.YtkkfmkhbdoeglaaGreatDoor
open Go.RowKit
def GA (last:Option K) (k:K):Bool:=match last with
 | none=>true
 | some b=>pI b k
def kG (s:List UInt8) (at':Nat) (last:Option K):(E×Nat)⊕(Nat×Nat) :=
 match s.drop at' with
 | [] => .inr (1,at')
 | t::r =>
  if 2<t.toNat then .inr (6,at')
  else if r.length<fB t.toNat then .inr (1,at'+1)
  else if gR t.toNat (r.take (fB t.toNat))=false then .inr (7,at'+1)
  else if (GA last ((t.toNat:Int),r.take (fB t.toNat)))=false then .inr (14,at'+1)
  else if r.length<fB t.toNat+fO t.toNat then .inr (1,at'+1+fB t.toNat)
  else if gi t.toNat ((r.drop (fB t.toNat)).take (fO t.toNat))=false then .inr (9,at'+1+fB t.toNat)
  else .inl ((((t.toNat:Int),r.take (fB t.toNat)),(r.drop (fB t.toNat)).take (fO t.toNat)),at'+1+fB t.toNat+fO t.toNat)
theorem drop1 {l:List UInt8} {q:Nat} {x:UInt8} {r:List UInt8} (h:l.drop q=x::r):l.drop (q+1)=r∧l.length=q+1+r.length∧l[q]?=some x:=by
 have h1:(l.drop q).drop 1=r:=by rw [h];rfl
 rw [cK] at h1
 have h2:=bG List.length h
 rw [cd,ar] at h2
 refine ⟨h1,by omega,?_⟩
 have h3:(l.drop q)[0]?=some x:=by rw [h];rfl
 rwa [dm,cx] at h3
def iE (s:List UInt8):Nat→Nat→List E→(Nat×List E)⊕(Nat×Nat)
 | 0,at',l => .inl (at',l)
 | n+1,at',l =>
  match kG s at' (l.getLast?.map (·.1)) with
  | .inr f => .inr f
  | .inl (x,q)=>iE s n q (l++[x])
def lC (s:List UInt8):(Nat×List E)⊕(Nat×Nat) :=
 if s.length<8 then .inr (1,0)
 else if isVersionB (iw (s.take 8))=false then .inr (4,0)
 else if s.length<10 then .inr (1,8)
 else match iE s ((s.getD 8 0).toNat*256+(s.getD 9 0).toNat) 10 [] with
  | .inr f => .inr f
  | .inl (q,l)=>if q<s.length then .inr (2,q) else .inl (iw (s.take 8),l)
theorem Fy {S:List E} {k:K} {v:List UInt8} (h:∀ x∈S,pI x.1 k=true):jS k v S=S++[(k,v)]:=by
 unfold jS
 rw [List.filter_eq_self.2 h,List.filter_eq_nil_iff.2 (fun x b=>by rw [mw (h x b)];decide)]
theorem oA {s:List UInt8} {at' q:Nat} {last:Option K} {x:E} (h:kG s at' last = .inl (x,q)):at'<q∧q≤s.length∧0≤x.1.1∧x.1.1<3∧gR x.1.1 x.1.2=true∧gi x.1.1 x.2=true∧(∀ k,last=some k→pI k x.1=true):=by
 unfold kG at h
 split at h
 ·cases h
 ·rename_i t r hd
  have hl:=(drop1 hd).2.1
  have key:∀ c:Bool,(∀ k,last=some k→c=pI k ((t.toNat:Int),r.take (fB (t.toNat:Int))))→(if 2<t.toNat then Sum.inr (6,at')
   else if r.length<fB (t.toNat:Int) then .inr (1,at'+1)
   else if gR (t.toNat:Int) (r.take (fB (t.toNat:Int)))=false then .inr (7,at'+1)
   else if c=false then .inr (14,at'+1)
   else if r.length<fB (t.toNat:Int)+fO (t.toNat:Int) then .inr (1,at'+1+fB (t.toNat:Int))
   else if gi (t.toNat:Int) ((r.drop (fB (t.toNat:Int))).take (fO (t.toNat:Int)))=false then .inr (9,at'+1+fB (t.toNat:Int))
   else .inl ((((t.toNat:Int),r.take (fB (t.toNat:Int))),(r.drop (fB (t.toNat:Int))).take (fO (t.toNat:Int))),at'+1+fB (t.toNat:Int)+fO (t.toNat:Int)))=(.inl (x,q):(E×Nat)⊕(Nat×Nat))→
   at'<q∧q≤s.length∧0≤x.1.1∧x.1.1<3∧gR x.1.1 x.1.2=true∧gi x.1.1 x.2=true∧(∀ k,last=some k→pI k x.1=true):=by
   intro c hc h
   split at h
   ·cases h
   split at h
   ·cases h
   split at h
   ·cases h
   split at h
   ·cases h
   split at h
   ·cases h
   split at h
   ·cases h
   rename_i h1 h2 h3 h4 h5 h6
   obtain ⟨b,hq⟩:=Prod.mk.inj (Sum.inl.inj h)
   subst b hq
   exact ⟨by omega,by omega,by simp,by simp only [];omega,by simpa using h3,by simpa using h6,fun k hk=>by rw [←hc k hk];simpa using h4⟩
  cases last with
  | none=>exact key true (fun k hk=>by (cases hk)) h
  | some d=>exact key _ (fun k hk=>by (cases hk;rfl)) h
theorem AH {s:List UInt8} {at':Nat} {last:Option K} {k p:Nat} (h:kG s at' last = .inr (k,p)) (ha:at'≤s.length):1≤k∧k≤14∧p≤s.length:=by
 unfold kG at h
 split at h
 ·obtain ⟨rfl,rfl⟩:=Prod.mk.inj (Sum.inr.inj h);omega
 ·rename_i t r hd
  have hl:=(drop1 hd).2.1
  split at h
  ·obtain ⟨rfl,rfl⟩:=Prod.mk.inj (Sum.inr.inj h);omega
  split at h
  ·obtain ⟨rfl,rfl⟩:=Prod.mk.inj (Sum.inr.inj h);omega
  split at h
  ·obtain ⟨rfl,rfl⟩:=Prod.mk.inj (Sum.inr.inj h);omega
  split at h
  ·obtain ⟨rfl,rfl⟩:=Prod.mk.inj (Sum.inr.inj h);omega
  split at h
  ·obtain ⟨rfl,rfl⟩:=Prod.mk.inj (Sum.inr.inj h);omega
  split at h
  ·obtain ⟨rfl,rfl⟩:=Prod.mk.inj (Sum.inr.inj h);omega
  cases h
end Go.Proofs.YtkkfmkhbdoeglaaGreatDoor
namespace Go.Proofs.YtkkfmkhbdoeglaaGreatDoor
open Go.RowKit
theorem zn (a b:K):decide (nX a b<0)=pI a b:=by
 unfold nX pI n9 o4
 rcases dO a.1 b.1 with h | h | h
 ·simp [h]
 ·have h1:¬a.1<b.1:=by omega
  have h2:¬b.1<a.1:=by omega
  simp only [h1,h2,h]
  simp
  by_cases h3:a.2<b.2
  ·simp [h3]
  ·simp only [h3,cX,iff_false]
   split <;> decide
 ·have h1:¬a.1<b.1:=by omega
  have h2:¬a.1=b.1:=by omega
  simp [h,h1,h2]
def FN (o:Option K) (last:K):Prop:=(o=none∧last=(-1,[]))∨o=some last
theorem D9 (T:Nat) (k:List UInt8):decide (nX (-1,[]) ((T:Int),k)<0)=true:=by
 rw [zn]
 simp [pI];omega
theorem Cu.wy (l:List UInt8) (a q:Nat) (last:K) (t:UInt8) (r:List UInt8) (c:Bool) (h:l.drop q=t::r) (hc:decide (nX last ((t.toNat:Int),r.take (fB (t.toNat:Int)))<0)=c) :
  match (if 2<t.toNat then Sum.inr (6,q)
   else if r.length<fB (t.toNat:Int) then .inr (1,q+1)
   else if gR (t.toNat:Int) (r.take (fB (t.toNat:Int)))=false then .inr (7,q+1)
   else if c=false then .inr (14,q+1)
   else if r.length<fB (t.toNat:Int)+fO (t.toNat:Int) then .inr (1,q+1+fB (t.toNat:Int))
   else if gi (t.toNat:Int) ((r.drop (fB (t.toNat:Int))).take (fO (t.toNat:Int)))=false then .inr (9,q+1+fB (t.toNat:Int))
   else .inl ((((t.toNat:Int),r.take (fB (t.toNat:Int))),(r.drop (fB (t.toNat:Int))).take (fO (t.toNat:Int))),q+1+fB (t.toNat:Int)+fO (t.toNat:Int)):(E×Nat)⊕(Nat×Nat)) with
  | .inr f=>((⟨l,a,q,none⟩:Cu).ent last).1.f=some f
  | .inl (x,i)=>∃ o,(⟨l,a,q,none⟩:Cu).ent last=(⟨l,o,i,none⟩,some x)∧i≤l.length:=by
 obtain ⟨hd,hl,-⟩:=drop1 h
 have s:¬l.length<q+1:=by omega
 simp only [Cu.ent,Cu.gM,s,cX,h,bj,bY,eR]
 by_cases h2:2<t.toNat
 ·have h3:¬(t.toNat:Int)<3:=by omega
  rw [aB h2]
  simp [Cu.iH,h3]
 ·have h3:(t.toNat:Int)<3:=by omega
  rw [au h2]
  simp only [Cu.iH,h3,decide_true,dF,Cu.gM,hl]
  by_cases hs:r.length<fB (t.toNat:Int)
  ·have b:q+1+r.length<q+1+fB (t.toNat:Int):=by omega
   simp only [hs,b,dF,Cu.iu,Cu.jt]
  ·have b:¬q+1+r.length<q+1+fB (t.toNat:Int):=by omega
   simp only [hs,b,cX,hd,Cu.iH]
   cases hk:gR (t.toNat:Int) (r.take (fB (t.toNat:Int))) with
   | false=>simp [Cu.iu,Cu.jt]
   | true =>
    simp only [dH,cX,dF,Cu.iH,hc]
    cases c with
    | false=>simp [Cu.iu,Cu.jt]
    | true =>
     simp only [dH,cX,dF,Cu.gM,hl]
     have j:l.drop (q+1+fB (t.toNat:Int))=r.drop (fB (t.toNat:Int)):=by rw [←hd,cK]
     by_cases m:r.length<fB (t.toNat:Int)+fO (t.toNat:Int)
     ·have d:q+1+r.length<q+1+fB (t.toNat:Int)+fO (t.toNat:Int):=by omega
      simp only [m,d,dF,Cu.iu]
     ·have d:¬q+1+r.length<q+1+fB (t.toNat:Int)+fO (t.toNat:Int):=by omega
      simp only [m,d,cX,j,Cu.iH]
      cases u:gi (t.toNat:Int) ((r.drop (fB (t.toNat:Int))).take (fO (t.toNat:Int))) with
      | false=>simp
      | true =>
       simp only [dH,cX,dF]
       exact ⟨_,rfl,by omega⟩
theorem Cu.Dd (l:List UInt8) (a q:Nat) (o:Option K) (last:K) (d:FN o last) :
  match kG l q o with
  | .inr f=>((⟨l,a,q,none⟩:Cu).ent last).1.f=some f
  | .inl (x,b)=>∃ i,(⟨l,a,q,none⟩:Cu).ent last=(⟨l,i,b,none⟩,some x)∧b≤l.length:=by
 rcases d with ⟨rfl,rfl⟩ | rfl
 all_goals
  unfold kG
  cases h:l.drop q with
  | nil =>
   have:l.length<q+1:=by have:=bG List.length h;simp at this;omega
   simp [Cu.ent,Cu.gM,this,List.replicate,Cu.iu]
  | cons t r => ?_
 ·exact Cu.wy l a q (-1,[]) t r true h (D9 _ _)
 ·exact Cu.wy l a q last t r _ h (zn _ _)
theorem lW (l:List UInt8):∀ (n a q:Nat) (last:K) (es:List E),q≤l.length→SortedE es→FN (es.getLast?.map (·.1)) last→
  match iE l n q es with
  | .inr f=>(gY n ⟨l,a,q,none⟩ last es).1.f=some f
  | .inl (j,m)=>∃ s,gY n ⟨l,a,q,none⟩ last es=(⟨l,s,j,none⟩,m)∧j≤l.length∧SortedE m
 | 0,a,q,last,es,h,hs,B=>⟨a,rfl,h,hs⟩
 | n+1,a,q,last,es,h,hs,B=>by
  have hc:=Cu.Dd l a q _ last B
  unfold iE
  cases he:kG l q (es.getLast?.map (·.1)) with
  | inr f =>
   rw [he] at hc
   simp only at hc⊢
   cases d:(⟨l,a,q,none⟩:Cu).ent last with
   | mk c' o =>
    rw [d] at hc
    cases o with
    | none=>rw [qd rfl d];exact hc
    | some x=>rw [oh rfl d,p8 hc];exact hc
  | inl D =>
   obtain ⟨x,j⟩:=D
   rw [he] at hc
   obtain ⟨s,d,hle⟩:=hc
   simp only
   have r:=(oA he).2.2.2.2.2.2
   have u:∀ y∈es,pI y.1 x.1=true:=by
    intro y b
    rcases List.eq_nil_or_concat es with rfl | ⟨F,z,rfl⟩
    ·cases b
    ·simp only [List.concat_eq_append] at hs b r
     have C:=r z.1 (by simp)
     rcases bQ.1 b with b | b
     ·exact nJ ((ek.1 hs).2.2 y b z (by simp)) C
     ·rw [aA.1 b];exact C
   have i:jS x.1 x.2 es=es++[x]:=Fy u
   have ih:=lW l n s j x.1 (es++[x]) hle (by rw [←i];exact sorted_put _ _ hs) (.inr (by simp))
   rw [oh rfl d,i]
   exact ih
theorem oa {s:List UInt8} : ∀ {n q d:Nat} {es b:List E},iE s n q es = .inl (d,b)→b.length=es.length+n
 | 0,q,d,es,b,h=>by
  obtain ⟨rfl,rfl⟩:=Prod.mk.inj (Sum.inl.inj h);rfl
 | n+1,q,d,es,b,h=>by
  unfold iE at h
  cases he:kG s q (es.getLast?.map (·.1)) with
  | inr f=>rw [he] at h;cases h
  | inl i =>
   obtain ⟨x,j⟩:=i
   rw [he] at h
   have:=oa h
   simp at this
   omega
theorem rm {s:List UInt8} : ∀ {n q:Nat} {es:List E} {k p:Nat},q≤s.length→iE s n q es = .inr (k,p)→1≤k∧k≤14∧p≤s.length
 | 0,q,es,k,p,_,h=>by cases h
 | n+1,q,es,k,p,hq,h=>by
  unfold iE at h
  cases he:kG s q (es.getLast?.map (·.1)) with
  | inr f =>
   rw [he] at h
   cases h
   exact AH he hq
  | inl b =>
   obtain ⟨x,d⟩:=b
   rw [he] at h
   exact rm (oA he).2.1 h
theorem mZ (l:List UInt8):im l=lC l:=by
 unfold im lC
 by_cases h8:l.length<8
 ·have i:l.length<0+8:=by omega
  simp [Cu.gM,h8,Cu.iu,Cu.jt,List.replicate,gY,Cu.ended]
 ·have i:¬l.length<0+8:=by omega
  simp only [Cu.gM,h8,cX,cw,bE,Cu.iH]
  cases q:isVersionB (iw (l.take 8)) with
  | false=>simp [Cu.jt,List.replicate,gY,Cu.ended]
  | true =>
   simp only [dF,dH,cX,Cu.gM]
   by_cases b:l.length<10
   ·have d:l.length<8+2:=b
    simp [b,List.replicate,gY,Cu.ended]
   ·have d:¬l.length<8+2:=b
    have e0:((l.drop 8).take 2).getD 0 0=l.getD 8 0:=by
     simp [aN,dm]
    have j:((l.drop 8).take 2).getD 1 0=l.getD 9 0:=by
     simp [aN,dm]
    simp only [b,cX,e0,j]
    have hd:=lW l ((l.getD 8 0).toNat*256+(l.getD 9 0).toNat) 8 10 (-1,[]) [] (by omega) SortedE.nil (.inl ⟨rfl,rfl⟩)
    cases hc:iE l ((l.getD 8 0).toNat*256+(l.getD 9 0).toNat) 10 [] with
    | inr f =>
     rw [hc] at hd
     simp only at hd⊢
     generalize gY ((l.getD 8 0).toNat*256+(l.getD 9 0).toNat) ⟨l,8,10,none⟩ (-1,[]) []=L at hd⊢
     simp [Cu.ended,hd]
    | inl x =>
     obtain ⟨m,o⟩:=x
     rw [hc] at hd
     obtain ⟨r,he,hle,-⟩:=hd
     simp only [he,Cu.ended]
     by_cases hq:m<l.length
     ·simp [hq]
     ·simp [hq]
theorem po {l:List UInt8} {n:Nat} {S:List E} (h:im l = .inl (n,S)):S.length≤65535∧SortedE S:=by
 rw [mZ] at h
 unfold lC at h
 split at h
 ·cases h
 split at h
 ·cases h
 split at h
 ·cases h
 rename_i h1 h2 h3
 have hd:=lW l ((l.getD 8 0).toNat*256+(l.getD 9 0).toNat) 8 10 (-1,[]) [] (by omega) SortedE.nil (.inl ⟨rfl,rfl⟩)
 cases hc:iE l ((l.getD 8 0).toNat*256+(l.getD 9 0).toNat) 10 [] with
 | inr f=>rw [hc] at h;cases h
 | inl x =>
  obtain ⟨i,d⟩:=x
  rw [hc] at hd h
  obtain ⟨-,-,-,hs⟩:=hd
  simp only at h
  split at h
  ·cases h
  ·obtain ⟨-,rfl⟩:=Prod.mk.inj (Sum.inl.inj h)
   have:=oa hc
   have a:=(l.getD 8 0).toNat_lt
   have b:=(l.getD 9 0).toNat_lt
   rw [aM] at this
   have j:(l.getD 8 0).toNat<256:=a
   have m:(l.getD 9 0).toNat<256:=b
   exact ⟨by omega,hs⟩
theorem zk {l:List UInt8} {k p:Nat} (h:im l = .inr (k,p)):1≤k∧k≤14∧p≤l.length:=by
 rw [mZ] at h
 unfold lC at h
 split at h
 ·cases h;omega
 split at h
 ·cases h;omega
 split at h
 ·cases h;omega
 rename_i h1 h2 h3
 cases hc:iE l ((l.getD 8 0).toNat*256+(l.getD 9 0).toNat) 10 [] with
 | inr f =>
  rw [hc] at h
  cases h
  exact rm (by omega) hc
 | inl x =>
  obtain ⟨d,b⟩:=x
  rw [hc] at h
  simp only at h
  split at h
  ·cases h;omega
  ·cases h
end Go.Proofs.YtkkfmkhbdoeglaaGreatDoor
namespace Go.Proofs.YtkkfmkhbdoeglaaGreatDoor
structure AgA where
 V:Nat
 T:List E
 out:List (List UInt8)
 deg:Option (Nat×Nat)
 com:Option (Nat×Nat×List (List UInt8))
inductive gS where
 | delta (v:Nat) (os:List OpB)
 | state (v:Nat) (T:List E)
def AgA.put (a:AgA) (k:UInt8) (body:List UInt8):AgA:=if a.out.length<6 then {a with out:=a.out++[sealB k body]} else a
def AgA.iM (a:AgA):AgA:=a.put 16 (j4 a.V)
def AgA.lu (a:AgA):AgA:=a.put 17 (j4 a.V)
def AgA.gy (a:AgA) (k:Nat):AgA:=a.put 18 [UInt8.ofNat k]
def AgA.CX (a:AgA):Nat:=match a.com with
 | some (_,_,got)=>got.length
 | none=>0
def AgA.km (a:AgA):AgA:=a.put 19 [UInt8.ofNat a.CX]
def AgA.bad (a:AgA) (k:Nat):AgA:=(a.gy k).iM
def AgA.stops (a:AgA) (f:Nat×Nat):AgA := {a with deg:=some f}.gy f.1
def AgA.tick (a:AgA):AgA:=if a.deg.isSome then a.gy 13 else if a.com.isSome then a.km else a.iM
def AgA.next (a:AgA):AgA×Option (List UInt8):=match a.out with
 | []=>(a,none)
 | s::l=>({a with out:=l},some s)
def begunA (v:Nat) (T:List E):AgA:=AgA.iM ⟨v,T,[],none,none⟩
def AgA.delta (a:AgA) (body:List UInt8):AgA×Option gS:=match oU body with
 | .inr f=>(a.bad f.1,none)
 | .inl (v,os)=>if v≤a.V then (a.lu,none) else if a.V+1<v then (a.iM,none) else (a,some (.delta v os))
def AgA.pa (a:AgA) (body:List UInt8):AgA :=
 if body.length<9 then a.bad 1 else if 9<body.length then a.bad 2
 else if isVersionB (iw (body.take 8))=false then a.bad 4
 else if (body.getD 8 0).toNat<1∨16<(body.getD 8 0).toNat then a.bad 5
 else if iw (body.take 8)≤a.V then a.lu
 else {a with com:=some (iw (body.take 8),(body.getD 8 0).toNat,[])}.km
def AgA.l9 (a:AgA) (tv:Nat) (bytes:List UInt8):AgA×Option gS:=match im bytes with
 | .inr f=>(a.bad f.1,none)
 | .inl (v,T)=>if v≠tv then (a.bad 4,none) else if v≤a.V then (a.lu,none) else (a,some (.state v T))
def AgA.piece (a:AgA) (body:List UInt8):AgA×Option gS :=
 if body.length<2 then (a.bad 1,none) else if 65<body.length then (a.bad 2,none)
 else match a.com with
 | none=>(a.iM,none)
 | some (tv,of,got) =>
  if (body.getD 0 0).toNat≠got.length then (a.km,none)
  else if got.length+1<of then ({a with com:=some (tv,of,got++[body.drop 1])}.km,none)
  else {a with com:=none}.l9 tv (got++[body.drop 1]).flatten
def AgA.taken (a:AgA) (frame:List UInt8):AgA×Option gS :=
 if a.deg.isSome then (a.gy 13,none) else match gJ frame with
 | .inr f=>(a.bad f.1,none)
 | .inl (k,body) =>
  if k=1 then a.delta body
  else if k=2 then (if body=[] then a.iM else a.bad 2,none)
  else if k=3 then (a.pa body,none)
  else if k=4 then a.piece body
  else (a.bad 6,none)
def overS (S:List E) (room:Nat→Int):Option Nat :=
 if room 0<countS 0 S then some 0 else if room 1<countS 1 S then some 1 else if room 2<countS 2 S then some 2 else none
def gS.V:gS→Nat
 | .delta v _=>v
 | .state v _=>v
def gS.T (tk:gS) (S:List E):List E:=match tk with
 | .delta _ os=>foldS S os
 | .state _ T=>T
def gZ (S:List E) (room:Nat→Int) (n:Nat):Option (Nat×Nat):=match overS S room with
 | some t=>some (10,t)
 | none=>if 16*(n-8)<sizeS S then some (11,0) else none
def AgA.takes (a:AgA) (tk:gS) (room:Nat→Int) (n:Nat):AgA:=match gZ (tk.T a.T) room n with
 | some f=>a.stops f
 | none => {a with V:=tk.V,T:=tk.T a.T}.lu
def AgA.done (a:AgA) (tk:gS) (room:Nat→Int) (n:Nat):List (List UInt8):=match gZ (tk.T a.T) room n with
 | some _=>[]
 | none=>(iQ a.T (tk.T a.T)).map px
structure AgA.Fit (a:AgA):Prop where
 v:a.V<18446744073709551615
 out:a.out.length≤6
 olen:∀ s∈a.out,s.length≤13
 com:∀ tv of got,a.com=some (tv,of,got)→got.length<of∧of≤16∧tv<18446744073709551616∧∀ s∈got,s.length≤64
end Go.Proofs.YtkkfmkhbdoeglaaGreatDoor
namespace Go.Proofs.YtkkfmkhbdoeglaaGreatDoor
structure LogS where
 stamp:Nat
 slot:Nat
 next:Nat
def fC (H:fx) (g:LogS) (at':Nat) (data:List UInt8):fx×Option Nat:=match fZ (fR (g.stamp+1) data) H at' with
 | (H1,some f)=>(H1,some f)
 | (H1,none)=>H1.flush
def Ag (g:LogS) (n:Nat):fx×Option Nat→fx×LogS×Option Nat
 | (H1,some f)=>(H1,{g with stamp:=g.stamp+1},some f)
 | (H1,none)=>(H1,⟨g.stamp+1,1-g.slot,2*placeOf n⟩,none)
def fI (H:fx) (g:LogS) (v:Nat) (T:List E):fx×LogS×Option Nat:=Ag g H.seen.length (fC H g ((1-g.slot)*placeOf H.seen.length) (ic v T))
def pd (g:LogS) (b:List UInt8):fx×Option Nat→fx×LogS×Option Nat
 | (H1,some f)=>(H1,{g with stamp:=g.stamp+1},some f)
 | (H1,none)=>(H1,{g with stamp:=g.stamp+1,next:=g.next+partsOf b.length},none)
def gj (H:fx) (g:LogS) (b:List UInt8):fx×LogS×Option Nat:=pd g b (fC H g g.next b)
def EL (b:List UInt8):fx×LogS×Option Nat→fx×LogS×Option Nat
 | (H1,g1,some f)=>(H1,g1,some f)
 | (H1,g1,none)=>gj H1 g1 b
def gF (H:fx) (g:LogS) (b:List UInt8) (v:Nat) (T:List E):fx×LogS×Option Nat :=
 if H.seen.length<g.next+partsOf b.length then EL b (fI H g v T) else gj H g b
def readAll (H:fx):fx×Option Nat :=
 if 0≤H.fail∧H.fail<H.seen.length then ({H with fail := -1},some (H.fail.toNat+2))
 else ({H with fail:=if H.fail<0 then H.fail else H.fail-H.seen.length},none)
def gm (seen:List (List UInt8)):Nat:=seen.foldl (fun m b=>max m (parseSec b).stamp) 0
def decSB (l:List UInt8):Option (Nat×List E):=match im l with
 | .inl r=>some r
 | .inr _=>none
def decDB (l:List UInt8):Option (Nat×List OpB):=match oU l with
 | .inl r=>some r
 | .inr _=>none
def zH (seen:List (List UInt8)):LogS×Nat×List E :=
 let d:=seen.map parseSec
 let p:=placeOf d.length
 let b:=rz decSB d p []
 let c:=jV foldS (vQ decDB d (ia d p)) (d.length+1) b.1 b.2.2.1 b.2.2.2 (2*p)
 (⟨gm seen,b.2.1,c.2.2⟩,c.1,c.2.1)
structure PAg where
 a:AgA
 sec:Nat
 lg:LogS
def gS.log (tk:gS) (H:fx) (P:PAg):fx×LogS×Option Nat:=match tk with
 | .delta v os=>gF H P.lg (iG v os) P.a.V P.a.T
 | .state v T=>fI H P.lg v T
def fx.lY (H:fx) (T:List E):fx := {H with dp:=H.dp.run (iQ H.dp.S T)}
def sS (P:PAg) (tk:gS):fx×LogS×Option Nat→fx×PAg
 | (H1,g1,some f)=>(H1,⟨P.a.stops (12,0),f,g1⟩)
 | (H1,g1,none)=>(H1.lY (tk.T P.a.T),⟨{P.a with V:=tk.V,T:=tk.T P.a.T}.lu,P.sec,g1⟩)
def jB (H:fx) (P:PAg) (tk:gS):fx×PAg:=match gZ (tk.T P.a.T) H.dp.room H.seen.length with
 | some f=>(H,{P with a:=P.a.stops f,sec:=0})
 | none=>sS P tk (tk.log H P)
def iO (H:fx) (P:PAg) (frame:List UInt8):fx×PAg:=match P.a.taken frame with
 | (a1,none)=>(H,{P with a:=a1})
 | (a1,some tk)=>jB H {P with a:=a1} tk
def gO (H:fx):fx×(PAg⊕(Nat×Nat×Nat)):=match readAll H with
 | (H1,some f)=>(H1,.inr (12,0,f))
 | (H1,none) =>
  let o:=zH H.seen
  match overS o.2.2 H.dp.room with
  | some t=>(H1,.inr (10,t,0))
  | none=>(H1.lY o.2.2,.inl ⟨begunA o.2.1 o.2.2,0,o.1⟩)
def oc (mask:Int) (i:Nat):Bool:=decide (mask / 2^(i%60)%2=1)
def fx.again (H:fx) (mask cut fail:Int):fx :=
 {held:=applySel (oc mask) 0 H.late H.held,seen:=applySel (oc mask) 0 H.late H.held,late:=[],fail:=max fail (-1),writes:=H.writes,dp := {H.dp with dead:=false,left:=max cut (-1)}}
def mc (n:Nat) (room:Nat→Int):fx:=⟨List.replicate n ib,List.replicate n ib,[],-1,0,⟨-1,false,room,[],[]⟩⟩
end Go.Proofs.YtkkfmkhbdoeglaaGreatDoor
namespace Go.Proofs.YtkkfmkhbdoeglaaGreatDoor
open Go.RowKit Go.Shelf
theorem vK (n:Nat) (w:World) (h:32≤n) (h2:n≤128):Calls Tryz.prog 157 #[.int .i64 (n:Nat)] w fun e w'=>e = .returned (.int .i64 (placeOf n:Nat))∧w'=w:=by
 have e:(16*((n:Int)-8)+10+53-1) / 53=(placeOf n:Int):=by unfold placeOf;omega
 have b:=ab e
 clear e
 go_enter Tryz.func157,Tryz.ntmps157
 go_wp2
 go_ret
 exact ⟨wX b.out,rfl⟩
theorem uV (b:Nat) (w:World):Calls Tryz.prog 137 #[.iface 168 (.pointer (some ⟨b,0,none⟩))] w fun e w'=>e = .returned (.pointer (some ⟨w.heap.size,0,none⟩))∧w'=w.alloc (.cells #[.int .i64 12,.int .i64 0,.iface 168 (.pointer (some ⟨b,0,none⟩))] 166):=by
 go_enter Tryz.func137,Tryz.ntmps137
 go_wp2
 go_ret
 exact ⟨rfl,rfl⟩
def we (w w':World) (v:Value):Option Nat→Prop
 | none=>v = .nilIface
 | some s=>jZ w w' v s
def LogAt (w:World) (lg h:Nat) (g:LogS):Prop:=w.heap[lg]?=some (.cells #[.iface 188 (.agg #[.pointer (some ⟨h,0,none⟩)]),.int .u64 (g.stamp:Nat),.int .i64 (g.slot:Nat),.int .i64 (g.next:Nat)] 253 (0,0))
structure HostOk (H:fx) (B:Nat):Prop where
 n:32≤H.seen.length∧H.seen.length≤128
 hl:H.held.length=H.seen.length
 s64:∀ b∈H.seen,b.length=64
 h64:∀ b∈H.held,b.length=64
 late:∀ x∈H.late,x.1.length=64∧x.2<H.held.length
 fail : -1≤H.fail∧H.fail≤9223372036854775807
 writes:0≤H.writes∧H.writes≤B
 ll:H.late.length≤B
theorem HostOk.mono {H:fx} {B C:Nat} (h:HostOk H B) (b:B≤C):HostOk H C:=⟨h.n,h.hl,h.s64,h.h64,h.late,h.fail,by have:=h.writes;omega,by have:=h.ll;omega⟩
theorem Ah {n:Int} (h : -1≤n∧n≤9223372036854775807) : -1≤(if n<0 then n else n-1)∧(if n<0 then n else n-1)≤9223372036854775807:=by split <;> omega
theorem HostOk.asked {H:fx} {B:Nat} (h:HostOk H B):HostOk H.asked B:=⟨h.n,h.hl,h.s64,h.h64,h.late,Ah h.fail,h.writes,h.ll⟩
theorem HostOk.write {H:fx} {B n:Nat} {s:List UInt8} (h:HostOk H B) (j:n<H.seen.length) (hs:s.length=64):HostOk (H.write n s).1 (B+1)∧(H.write n s).1.seen.length=H.seen.length:=by
 unfold fx.write
 split
 ·exact ⟨h.asked.mono (by omega),rfl⟩
 ·have l:=h.asked
  refine ⟨⟨by rw [bU];exact h.n,by rw [bU];exact h.hl,fun b i => ?_,h.h64,fun x d => ?_,l.fail,by have:=h.writes;simp only;omega,?_⟩,by rw [bU]⟩
  ·rcases cO i with i | rfl
   ·exact h.s64 b i
   ·exact hs
  ·simp only at d
   split at d
   ·exact h.late x d
   ·rcases bQ.1 d with d | d
    ·exact h.late x d
    ·rw [aA.1 d]
     exact ⟨hs,by show n<H.held.length;rw [h.hl];exact j⟩
  ·have:=h.ll
   simp only
   split
   ·omega
   ·rw [aq]
    simp
    omega
theorem q6 {α:Type} (i:Nat→Bool):∀ (l:List (α×Nat)) (k:Nat) (d:List α) (b : α),b∈applySel i k l d→b∈d∨∃ x∈l,b=x.1
 | [],k,d,b,h => .inl h
 | y::l,k,d,b,h=>by
  unfold applySel at h
  rcases q6 i l (k+1) _ b h with h | ⟨x,j,rfl⟩
  ·split at h
   ·rcases cO h with h | rfl
    ·exact .inl h
    ·exact .inr ⟨y,by simp,rfl⟩
   ·exact .inl h
  ·exact .inr ⟨x,by simp [j],rfl⟩
theorem HostOk.flush {H:fx} {B:Nat} (h:HostOk H B):HostOk H.flush.1 B∧H.flush.1.seen.length=H.seen.length:=by
 have d:=h.asked
 unfold fx.flush
 split
 ·exact ⟨d,rfl⟩
 ·split
  ·exact ⟨⟨h.n,h.hl,h.s64,h.h64,h.late,d.fail,h.writes,h.ll⟩,rfl⟩
  ·refine ⟨⟨h.n,(jF _ _ _ _).trans h.hl,h.s64,fun b i => ?_,fun x j=>by simp at j,d.fail,h.writes,aK _⟩,rfl⟩
   rcases q6 _ _ _ _ _ i with i | ⟨x,j,rfl⟩
   ·exact h.h64 b i
   ·exact (h.late x j).1
end Go.Proofs.YtkkfmkhbdoeglaaGreatDoor
namespace Go.Proofs.YtkkfmkhbdoeglaaGreatDoor
open Go.RowKit Go.Shelf
theorem BA (h : Nat) (w : World) : (nilAhead 433 188 (.agg #[.pointer (some ⟨h, 0, none⟩)]) "Write").run Tryz.prog w = .ok (some false) w := by kernel_rfl
theorem vD (h : Nat) (w : World) : (method 433 188 (.agg #[.pointer (some ⟨h, 0, none⟩)]) "Write").run Tryz.prog w = .ok (202, .agg #[.pointer (some ⟨h, 0, none⟩)]) w := by kernel_rfl
theorem Au (h : Nat) (w : World) : (nilAhead 433 188 (.agg #[.pointer (some ⟨h, 0, none⟩)]) "Flush").run Tryz.prog w = .ok (some false) w := by kernel_rfl
theorem vf (h : Nat) (w : World) : (method 433 188 (.agg #[.pointer (some ⟨h, 0, none⟩)]) "Flush").run Tryz.prog w = .ok (199, .agg #[.pointer (some ⟨h, 0, none⟩)]) w := by kernel_rfl
theorem l7 (h : Nat) (w : World) : (nilAhead 433 188 (.agg #[.pointer (some ⟨h, 0, none⟩)]) "Sectors").run Tryz.prog w = .ok (some false) w := by kernel_rfl
theorem kA (h : Nat) (w : World) : (method 433 188 (.agg #[.pointer (some ⟨h, 0, none⟩)]) "Sectors").run Tryz.prog w = .ok (201, .agg #[.pointer (some ⟨h, 0, none⟩)]) w := by kernel_rfl
theorem CL (h : Nat) (w : World) : (nilAhead 433 188 (.agg #[.pointer (some ⟨h, 0, none⟩)]) "Read").run Tryz.prog w = .ok (some false) w := by kernel_rfl
theorem xu (h : Nat) (w : World) : (method 433 188 (.agg #[.pointer (some ⟨h, 0, none⟩)]) "Read").run Tryz.prog w = .ok (200, .agg #[.pointer (some ⟨h, 0, none⟩)]) w := by kernel_rfl
def G6 (w:World) (F:Nat→Prop) (lg h:Nat) (H:fx) (g:LogS) (_dv:Value) (data:List UInt8) (at' B i:Nat) (wr:World):Prop :=
 ∃ (b:fx) (d:Nat→Prop),HostAt wr d h b∧HostOk b (B+i)∧b.seen.length=H.seen.length∧(∀ k,d k→F k∨w.heap.size≤k)∧Ext (fun k=>F k∨k=lg) w wr∧LogAt wr lg h {g with stamp:=g.stamp+1}∧¬d lg∧
  (∀ k,d k→k<wr.heap.size)∧fZ ((fR (g.stamp+1) data).drop i) b (at'+i)=fZ (fR (g.stamp+1) data) H at'
theorem Ek (w:World) (a b c:Nat) (ha:a<256) (d:b<256) (hc:c<256):BytesAt (w.alloc (.cells #[.int .u8 (a:Int),.int .u8 (b:Int),.int .u8 (c:Int)] 5)) (.slice (some ⟨w.heap.size,0,none⟩) 3 3) [UInt8.ofNat a,UInt8.ofNat b,UInt8.ofNat c]:=by
 have h:=OwnS.new w #[.int .u8 (a:Int),.int .u8 (b:Int),.int .u8 (c:Int)] 5 0 0 0 1 3 3 (aK _) (by omega) (by decide) (by simp) (.inl (by omega))
 have e:(#[Value.int .u8 (a:Int),.int .u8 (b:Int),.int .u8 (c:Int)].toList.take (3*1))=u8s [UInt8.ofNat a,UInt8.ofNat b,UInt8.ofNat c]:=by
  simp [u8s]
  omega
 rw [e] at h
 exact h.bytes (l:=[UInt8.ofNat a,UInt8.ofNat b,UInt8.ofNat c])
theorem xO (gb go n cap i j:Nat) (a b:Int) (ha:a=(i:Int)) (l:b=(j:Int)) (m:i≤j) (o:j≤cap) (q:i<cap) (w:World) :
  (Instr.slice 59 (.slice (some ⟨gb,go,none⟩) n cap) (some (.int .i64 a)) (some (.int .i64 b)) none).run Tryz.prog w = .ok (.slice (some ⟨gb,go+i,none⟩) (j-i) (cap-i)) w:=by
 subst ha l
 have hu:Tryz.prog.underlying 59=some (.slice (Tryz.prog.elem 59)):=by kernel_rfl
 have hs:(sizeOf (Tryz.prog.elem 59)).run Tryz.prog w = .ok 1 w:=by kernel_rfl
 rw [run_slice_lh (P:=Tryz.prog) (w:=w) 59 (some ⟨gb,go,none⟩) n cap hu .i64 .i64 (i:Int) (j:Int) (by omega) (by omega) (by omega),hs]
 have d:¬cap=i:=by omega
 simp [Result.andThen,sliced,Addr.add,d]
theorem LogAt.ext {w w':World} {S:Nat→Prop} {lg h:Nat} {g:LogS} (hl:LogAt w lg h g) (b:Ext S w w') (d:¬S lg):LogAt w' lg h g:=b.at d hl
theorem jZ.mono {w w1 w':World} {v:Value} {s:Nat} (h:jZ w1 w' v s) (hs:w.heap.size≤w1.heap.size):jZ w w' v s:=by
 obtain ⟨b,h1,h2,h3⟩:=h
 exact ⟨b,h1,aH hs h2,h3⟩
theorem vq {H H1:fx} {g:LogS} {at' f:Nat} {data:List UInt8} (h:fZ (fR (g.stamp+1) data) H at'=(H1,some f)):fC H g at' data=(H1,some f):=by
 unfold fC
 rw [h]
theorem se {H H1:fx} {g:LogS} {at':Nat} {data:List UInt8} (h:fZ (fR (g.stamp+1) data) H at'=(H1,none)):fC H g at' data=H1.flush:=by
 unfold fC
 rw [h]
theorem Dm {s:Nat} {data:List UInt8} {k:Nat} (hk:k<partsOf data.length):(fR s data).drop k=jd (iV s k (partsOf data.length) (je data k))::(fR s data).drop (k+1):=by
 have hl:=iC s data
 rw [cn (by omega)]
 congr 1
 unfold fR
 simp
theorem zw {H:fx} {n:Nat} {s:List UInt8} (h:H.gy=true):H.write n s=(H.asked,some (n+2)):=by
 unfold fx.write
 rw [aB h]
theorem zP {H:fx} {n:Nat} {s:List UInt8} (h:H.gy=false):(H.write n s).2=none:=by
 unfold fx.write
 rw [au (by rw [h];decide)]
theorem yd {H:fx} (h:H.gy=true):H.flush=(H.asked,some 1):=by
 unfold fx.flush
 rw [aB h]
theorem Bg {H:fx} (h:H.gy=false):H.flush.2=none:=by
 unfold fx.flush
 rw [au (by rw [h];decide)]
 split <;> rfl
theorem oq (lg h:Nat) (F:Nat→Prop) (H:fx) (g:LogS) (at' B:Nat) (dv:Value) (data:List UInt8) (w:World) (hl:LogAt w lg h g) (hh:HostAt w F h H) (a5:HostOk H B) (hB:B≤900000000) (a6:¬F lg) (a7:BytesAt w dv data) (bS:∀ k,dv.ownBlock=some k→¬F k∧k≠lg)
  (hp:at'+partsOf data.length≤H.seen.length) (e3:g.stamp<9000000000000000000) :
  Calls Tryz.prog 147 #[.pointer (some ⟨lg,0,none⟩),.int .i64 (at':Nat),dv] w fun e w'=>∃ r,e = .returned r∧we w w' r (fC H g at' data).2∧LogAt w' lg h {g with stamp:=g.stamp+1}∧gV w F (fun k=>k=lg) h (fC H g at' data).1 w'∧HostOk (fC H g at' data).1 (B+partsOf data.length):=by
 have hn:=a5.n
 have e4:data.length≤53*128:=by unfold partsOf at hp;omega
 obtain ⟨P,hP⟩:∃ P,P=partsOf data.length:=⟨_,rfl⟩
 have bX:((data.length:Int)+53-1) / 53=(P:Int):=by rw [hP];unfold partsOf;omega
 obtain ⟨f4,f3,rfl,e5,-⟩:=a7.opened
 unfold LogAt at hl
 have E:=fw hl
 have c1:=ae _ _ 1 _ _ _ hl
 have f1:=aj _ _ 1 _ _ hl
 have b0:IntKind.u64.wrap ((g.stamp:Int)+1)=((g.stamp+1:Nat):Int):=by rw [show ((g.stamp:Int)+1)=((g.stamp+1:Nat):Int) by omega];exact IntWalk.u64_in _ (by omega)
 have c9:=ab bX
 have e6:=ab b0
 rw [←hP] at hp
 have C:=ab hP
 have HL:=ab hl
 have a9:Hid (LogAt (w.setCell ⟨lg,1,none⟩ (.int .u64 (g.stamp+1:Nat))) lg h {g with stamp:=g.stamp+1}):=ab (heap_setCell _ _ 1 _ hl)
 have ba:Hid (Ext (fun k=>F k∨k=lg) w (w.setCell ⟨lg,1,none⟩ (.int .u64 (g.stamp+1:Nat)))):=ab ((Ext.refl _ w).setCell _ _ (.inl (.inr rfl)))
 have ak:Hid (HostAt (w.setCell ⟨lg,1,none⟩ (.int .u64 (g.stamp+1:Nat))) F h H):=ab (hh.frame (by rw [size_setCell];exact af _) fun k hk=>Below.heap_setCell w ⟨lg,1,none⟩ _ k fun e=>a6 (by rw [←show k=lg from e];exact hk))
 have e7:=ab hh.lt
 have da:=ab a5
 have b1:=ab a7
 have dc:=ab bS
 have dk:=ab a6
 clear hP bX b0 hl hh a5 a7 bS a6
 go_enter Tryz.func147,Tryz.ntmps147
 go_wp2
 rw [show ((g.stamp:Int)+1)=((g.stamp+1:Nat):Int) by omega,c9.out]
 obtain ⟨w1,b2⟩:∃ w1,w1=w.setCell ⟨lg,1,none⟩ (.int .u64 (g.stamp+1:Nat)):=⟨_,rfl⟩
 rw [←b2] at a9 ba ak⊢
 clear b2 c1 f1
 obtain ⟨S,hS⟩:∃ S,S=g.stamp+1:=⟨_,rfl⟩
 have e8:S≤9000000000000000000:=by omega
 have HS:=ab hS
 rw [←hS]
 clear hS
 have el:P≤128:=by omega
 go_loopw [25] (fun i wr=>∃ k:Nat,k≤P∧i = .int .i64 (k:Int)∧G6 w F lg h H g (.slice f4 data.length f3) data at' B k wr) (fun i _=>P-(intOf i).toNat)
 case atStart=>exact ⟨0,aK _,rfl,H,F,ak.out,da.out,rfl,fun _ => .inl,ba.out,a9.out,dk.out,ak.out.lt,rfl⟩
 case round =>
  obtain ⟨k,hk,rfl,M,R,r1,r2,r3,r4,r5,V,r7,r8,r9⟩:=hrel
  have bb:=ab r1
  have d:=ab r2
  have G:=ab r4
  have X:=ab r5
  have al:=ab V
  have Y:=ab r7
  have d1:=ab r8
  have bc:=ab r9
  have b3:=ab r3
  unfold LogAt at V
  simp only at V
  rw [←HS.out] at V
  have c0:wr.cell? ⟨lg,0,none⟩=some (.iface 188 (.agg #[.pointer (some ⟨h,0,none⟩)])):=ae _ _ 0 _ _ _ V
  have c1:wr.cell? ⟨lg,1,none⟩=some (.int .u64 (S:Int)):=ae _ _ 1 _ _ _ V
  have b4:=fw V
  clear r1 r2 r3 r4 r5 V r7 r8 r9
  by_cases E:k<P
  ·have g1:(k:Int)<P:=by omega
   obtain ⟨N,hN⟩:∃ N,N=(je data k).length:=⟨_,rfl⟩
   have c4:53*k≤data.length:=by rw [C.out] at E;unfold partsOf at E;omega
   have b5:N=min 53 (data.length-53*k):=by rw [hN];unfold je;rw [aD,cd]
   have en:N≤53:=by omega
   have bd:min 53 ((data.length:Int)-(k:Int)*53)=(N:Int):=by omega
   have bi:=ab bd
   have HN:=ab hN
   have e9:=ab b5
   obtain ⟨a',c',e',er,b6⟩:=b1.out.opened
   obtain ⟨rfl,-,rfl⟩:=Value.slice.inj e'
   have c6:0<data.length:=by rw [C.out] at E;unfold partsOf at E;omega
   have bP:53*k<data.length:=by rw [C.out] at E;unfold partsOf at E;omega
   obtain ⟨gb,go,rfl,d2⟩:=b6 0 c6
   have d3:∀ w,(Instr.slice 59 (.slice (some ⟨gb,go,none⟩) data.length f3) (some (.int .i64 ((k:Int)*53))) (some (.int .i64 ((k:Int)*53+N))) none).run Tryz.prog w = .ok (.slice (some ⟨gb,go+53*k,none⟩) N (f3-53*k)) w:=fun w=>by
    have:=xO gb go data.length f3 (53*k) (53*k+N) ((k:Int)*53) ((k:Int)*53+N) (by omega) (by omega) (by omega) (by omega) (by omega) w
    rw [show 53*k+N-53*k=N by omega] at this
    exact this
   have b7:(data.take (53*k+N)).drop (53*k)=je data k:=by
    unfold je
    rw [List.drop_take]
    rw [show 53*k+N-53*k=N by omega,hN]
    unfold je
    rw [aD,←List.take_eq_take_min]
   have b8:Hid (∀ W,BytesAt W (.slice (some ⟨gb,go,none⟩) data.length f3) data→BytesAt W (.slice (some ⟨gb,go+53*k,none⟩) N (f3-53*k)) (je data k)):=ab fun W hW=>by
    have:=hW.sub (53*k) (53*k+N) (by omega) (by omega)
    rw [b7,show 53*k+N-53*k=N by omega] at this
    exact this
   clear bd hN b5 b7 b6 d2 e' c4 bP
   go_wp2_with fail
   rw [bi.out]
   refine (sD wr.heap.size (.slice none 0 0) [] S wr (OwnS.nil _ _ _) (CellsOf.nil _ _) (af _) (by decide) (by omega)).mono ?_
   rintro e w2 ⟨bv,rfl,J,bk,am⟩
   simp only [aM,bE,aO] at J
   have d4:=am.size
   have ca:=ab J
   have cb:=ab bk
   have ce:=ab am
   have H3:=ab (Ek w2 k P N (by omega) (by omega) (by omega))
   have fb:=(am.cell (p:=⟨lg,0,none⟩) b4).trans c0
   obtain ⟨sa,sc,rfl⟩:=J.shape
   clear J bk am
   have bl:Hid (BytesAt wr (.slice (some ⟨gb,go,none⟩) data.length f3) data):=ab (fH.frame b1.out fun b e hb=>X.out.block b hb fun e'=>by
    obtain ⟨q1,q2⟩:=dc.out b e
    exact e'.elim q1 q2)
   go_wp2_with (first
    | (at_builtin;refine jL rfl (.tmp 38) (.tmp 45) rfl wr.heap.size (.slice sa 8 sc) 8 (j4 S) rfl (by exact ca.out.below ((Below.refl _ w2).alloc (af _) _)) (cb.out.alloc _) [UInt8.ofNat k,UInt8.ofNat P,UInt8.ofNat N] (by exact H3.out) (by simp) (by simp;omega) ?_;intro v3 w3 U _ bn ci;simp only [ar,aM,Nat.reduceAdd] at U;have bo:=ab U;have cl:=ab bn;have ap:Hid (Below wr.heap.size wr w3):=ab ((ce.out.alloc d4 _).trans ci);clear U bn ci;obtain ⟨fd,fg,rfl⟩:=bo.out.shape)
    | (at_builtin;refine jL rfl (.tmp 47) (.tmp 55) rfl wr.heap.size _ 11 _ rfl bo.out cl.out (je data k) (by have d8:=b8.out w3 (bl.out.below ap.out);exact d8) (by rw [←HN.out];omega) ap.out.size ?_;intro v4 w4 av _ br co;have bs:=ab av;have d9:=ab br;have aE:Hid (Below wr.heap.size wr w4):=ab (ap.out.trans co);have fi:=(aE.out.cell (p:=⟨lg,0,none⟩) b4).trans c0;clear av br co))
   have bt:(at':Int)+(k:Int)=((at'+k:Nat):Int):=by omega
   have bw:=ab bt
   clear bt
   have bx:BytesAt w4 v4 (iV S k P (je data k)):=by
    have h1:=bs.out.bytes (l:=j4 S++[UInt8.ofNat k,UInt8.ofNat P,UInt8.ofNat N]++je data k) |>.name
    obtain ⟨m,rfl,h2⟩:=h1
    unfold iV
    rw [←HN.out]
    exact h2
   have cp:=ab bx
   have cq:∀ b,v4.ownBlock=some b→¬R b:=fun b e hF=>by
    have h1:=bs.out.fL b e
    have h2:=d1.out b hF
    omega
   have eb:=ab cq
   have a0:(iV S k P (je data k)).length≤64:=by rw [oR,←HN.out];omega
   have bz:=ab a0
   have cr:=ab (bb.out.below aE.out)
   have fk:=BA h
   have fl:=vD h
   have Z:Hid (at'+k<M.seen.length∧M.seen.length≤1000):=ab (by rw [b3.out];omega)
   have cs:=ab (Dm (s:=g.stamp+1) (data:=data) (k:=k) (by rw [←C.out];exact E))
   obtain ⟨fn,fo,rfl⟩:=bs.out.shape
   have bD:Hid (LogAt w4 lg h {g with stamp:=g.stamp+1}):=ab (fy aE.out (fw al.out) al.out)
   have a1:=ab (X.out.trans (Ext.fD aE.out))
   clear bx cq a0 ak ba a9 bi b8 bl ca cb ce H3 bo cl ap d9 d3
   cases D:M.gy with
   | true =>
    go_wp2_with fail
    rw [bw.out]
    refine (C3 h R M (at'+k) _ _ w4 cr.out cp.out bz.out Z.out.1 Z.out.2 D).mono ?_
    rintro e w5 ⟨v,rfl,aa,o,u⟩
    have ct:=zw (n:=at'+k) (s:=jd (iV S k P (je data k))) D
    have ec:=ab ct
    have bH:=ab aa
    have I:=ab o
    have y:=ab u
    obtain ⟨f5,rfl,-,-⟩:=aa
    clear o u ct
    go_wp2
    go_ret
    have f6:fC H g at' data=(M.asked,some (at'+k+2)):=vq (by rw [←bc.out,cs.out];unfold fZ;rw [←C.out,←HS.out,ec.out])
    refine ⟨_,rfl,?_⟩
    rw [f6]
    exact ⟨bH.out.mono a1.out.size,bD.out.ext y.out Y.out,⟨R,I.out,G.out,a1.out.trans' y.out fun j O=>(G.out j O).imp .inl id⟩,d.out.asked.mono (by rw [←C.out];omega)⟩
   | false =>
    have a2:=d.out.ll
    have c7:=d.out.writes
    go_wp2_with fail
    rw [bw.out]
    refine (AI h R M (at'+k) _ _ w4 cr.out cp.out eb.out bz.out Z.out.1 Z.out.2 D d.out.fail (by omega) (by omega)).mono ?_
    rintro e w5 ⟨rfl,ed⟩
    obtain ⟨F',o,cu,u⟩:=ed
    have bI:Ext R w4 w5:=u.mono fun j O=>O.elim id False.elim
    have I:=ab o
    have y:=ab bI
    have Q:=ab cu
    have eg:=ab (zP (n:=at'+k) (s:=jd (iV S k P (je data k))) D)
    have bL:=ab (d.out.write (n:=at'+k) (s:=jd (iV S k P (je data k))) Z.out.1 (lM bz.out))
    clear o cu u bI a2 c7
    go_wp2
    go_roundw
    case rel =>
     refine ⟨k+1,by omega,by go_num,_,F',I.out,bL.out.1,bL.out.2.trans b3.out,fun j O => ?_,a1.out.trans' y.out fun j O=>(G.out j O).imp .inl id,bD.out.ext y.out Y.out,fun hl => ?_,I.out.lt,?_⟩
     ·rcases Q.out j O with e | e
      ·exact G.out j e
      ·exact .inr (aH a1.out.size e)
     ·rcases Q.out lg hl with e | e
      ·exact Y.out e
      ·have:=fw bD.out
       omega
     ·rw [←bc.out,cs.out,←C.out]
      conv=>rhs;unfold fZ
      rw [←HS.out]
      have h1:=eg.out
      generalize M.write (at'+k) (jd (iV S k P (je data k)))=q at h1⊢
      obtain ⟨q1,q2⟩:=q
      simp only at h1
      subst h1
      rw [aY]
    case measure=>simp [intOf];omega
  ·obtain rfl:k=P:=by omega
   have fp:=Au h
   have fr:=vf h
   have a3:Hid (fZ (fR (g.stamp+1) data) H at'=(M,none)):=ab (by
    rw [←bc.out,fm (by rw [iC,C.out];exact af _)]
    rfl)
   have a2:=d.out.ll
   cases D:M.gy with
   | true =>
    go_wp2_with fail
    refine (Dl h R M wr bb.out D).mono ?_
    rintro e w5 ⟨v,rfl,aa,o,u⟩
    have bH:=ab aa
    have I:=ab o
    have y:=ab u
    have Q:=ab (yd D)
    obtain ⟨f5,rfl,-,-⟩:=aa
    clear o u
    go_wp2
    go_ret
    refine ⟨_,rfl,?_⟩
    rw [se a3.out,Q.out]
    exact ⟨bH.out.mono X.out.size,al.out.ext y.out Y.out,⟨R,I.out,G.out,X.out.trans' y.out fun j O=>(G.out j O).imp .inl id⟩,d.out.asked.mono (by rw [←C.out];omega)⟩
   | false =>
    have ej:=d.out.hl
    go_wp2_with fail
    refine (Ao h R M wr bb.out D d.out.fail (by omega) (fun x hx=>(d.out.late x hx).2) (by have:=d.out.n;omega)).mono ?_
    rintro e w5 ⟨rfl,o,u⟩
    have I:=ab o
    have y:=ab u
    have Q:=ab (Bg D)
    clear o u ej
    go_wp2
    go_ret
    refine ⟨_,rfl,?_⟩
    rw [se a3.out,Q.out]
    exact ⟨rfl,al.out.ext y.out Y.out,⟨R,I.out,G.out,X.out.trans' y.out fun j O=>(G.out j O).imp .inl id⟩,d.out.flush.1.mono (by rw [←C.out];omega)⟩
end Go.Proofs.YtkkfmkhbdoeglaaGreatDoor
namespace Go.Proofs.YtkkfmkhbdoeglaaGreatDoor
open Go.RowKit Go.Shelf
theorem um:∀ (S:List E),(jc S).length=sizeS S
 | []=>rfl
 | x::S=>by
  have e:jc (x::S)=jl x++jc S:=rfl
  have b:sizeS (x::S)=1+x.1.2.length+x.2.length+sizeS S:=rfl
  rw [e,b,aq,um S]
  unfold jl
  simp
  omega
theorem nQ (v:Nat) (S:List E):(ic v S).length=10+sizeS S:=by
 unfold ic
 rw [aq,aq,fQ,um]
 rfl
theorem gV.fS {w w1 w':World} {F S:Nat→Prop} {h:Nat} {H:fx} (b:Below w.heap.size w w1) (d:gV w1 F S h H w'):gV w F S h H w':=by
 obtain ⟨F',h1,h2,h3⟩:=d
 exact ⟨F',h1,fun k hk=>(h2 k hk).imp id (fun e=>aH b.size e),(Ext.fD b).trans h3⟩
theorem gV.wO {w w':World} {F S:Nat→Prop} {h lg:Nat} {H:fx} (b:gV w F S h H w') (d:S lg) (hF:¬F lg) (l:lg<w.heap.size) (i:Nat) (v:Value):gV w F S h H (w'.setCell ⟨lg,i,none⟩ v):=by
 obtain ⟨F',h1,h2,h3⟩:=b
 refine ⟨F',h1.frame (by rw [size_setCell];exact af _) fun k hk=>Below.heap_setCell w' ⟨lg,i,none⟩ v k fun e => ?_,h2,h3.setCell _ _ (.inl (.inr d))⟩
 have j:k=lg:=e
 rcases h2 k hk with h | h
 ·exact hF (j▸h)
 ·omega
theorem sG (lg h:Nat) (F:Nat→Prop) (H:fx) (g:LogS) (B q off r v:Nat) (T:List E) (w:World) (hl:LogAt w lg h g) (I:HostAt w F h H) (y:HostOk H B) (hB:B≤900000000) (J:¬F lg) (he:EntAt w q off r T)
  (bw:g.slot<2) (bx:sizeS T≤16*(H.seen.length-8)) (hT:T.length<65536) (hv:v<18446744073709551616) (a1:∀ x∈T,0≤x.1.1∧x.1.1<256∧x.1.2.length≤100∧x.2.length≤100) (a2:g.stamp<9000000000000000000) :
  Calls Tryz.prog 146 #[.pointer (some ⟨lg,0,none⟩),.int .u64 (v:Nat),.pointer (some ⟨q,off,none⟩)] w fun e w'=>∃ r,e = .returned r∧we w w' r (fI H g v T).2.2∧LogAt w' lg h (fI H g v T).2.1∧gV w F (fun k=>k=lg) h (fI H g v T).1 w'∧HostOk (fI H g v T).1 (B+128):=by
 have X:=y.n
 have Z:=iT X.1 X.2
 have a3:partsOf (ic v T).length≤placeOf H.seen.length:=lN (by rw [nQ];omega)
 obtain ⟨pl,M⟩:∃ pl,pl=placeOf H.seen.length:=⟨_,rfl⟩
 have aa:(1-g.slot)*placeOf H.seen.length+partsOf (ic v T).length≤H.seen.length:=by
  rcases (show g.slot=0∨g.slot=1 by omega) with e | e <;> rw [e] <;> omega
 have ag:=fun (dv:Value) (W:World) (Y:Below w.heap.size w W) (a4:BytesAt W dv (ic v T)) (a5:∀ k,dv.ownBlock=some k→¬F k∧k≠lg)=>ab (oq lg h F H g ((1-g.slot)*placeOf H.seen.length) B dv (ic v T) W (fy Y (fw hl) hl) (I.below Y) y hB J a4 a5 aa a2)
 have a6:=ab (nb h F H w I)
 have bz:=l7 h
 have bD:=kA h
 have ak:=fun (W:World) (Y:Below w.heap.size w W)=>ab (EG q off r v T W (he.below Y) hT hv a1)
 have HH:=ab I
 have HL:=ab hl
 have a7:=ab I.lt
 have bH:=ab y
 have i:=hl
 unfold LogAt at i
 have c0:w.cell? ⟨lg,0,none⟩=some (.iface 188 (.agg #[.pointer (some ⟨h,0,none⟩)])):=ae _ _ 0 _ _ _ i
 have c2:w.cell? ⟨lg,2,none⟩=some (.int .i64 (g.slot:Int)):=ae _ _ 2 _ _ _ i
 have N:=fw i
 have a9:=ab Z
 have al:=ab M
 have l:(1:Int)-(g.slot:Int)=((1-g.slot:Nat):Int):=by omega
 have ba:=ab l
 obtain ⟨A,hA⟩:∃ A,A=(1-g.slot)*placeOf H.seen.length:=⟨_,rfl⟩
 have am:wrap64 ((1-(g.slot:Int))*(pl:Int))=(A:Int):=by
  rw [l,←Int.natCast_mul,hA,←M]
  have hm:(1-g.slot)*pl≤1*pl:=dK _ (by omega)
  generalize (1-g.slot)*pl=m at hm⊢
  exact IntWalk.wrap64_in (m:Int) (by omega)
 have HA:=ab hA
 have bc:=ab am
 clear hA am
 have bn:pl≤37:=by omega
 clear hl i I y a3 aa M l Z
 go_enter Tryz.func146,Tryz.ntmps146
 go_wp2_with fail
 refine a6.out.mono ?_
 rintro e w1 ⟨rfl,O⟩
 have D:=ab O
 have d2:=(O.cell (p:=⟨lg,2,none⟩) N).trans c2
 clear c0 c2 O
 go_wp2_with fail
 refine (vK H.seen.length w1 X.1 X.2).mono ?_
 rintro e bd ⟨rfl,rfl⟩
 rw [←al.out]
 go_wp2_with fail
 refine (ak bd D.out).out.mono ?_
 rintro e w2 ⟨bv,rfl,d,ap⟩
 rw [bc.out]
 have o:=D.out.trans (ap.mono D.out.size)
 have R:=ag bv w2 o d.bytes (fun k e=>by
  have h1:=d.fL k e
  have h2:=D.out.size
  exact ⟨fun hF=>by have:=a7.out k hF;omega,by omega⟩)
 have s:=ab o
 obtain ⟨bI,bL,rfl⟩:=d.shape
 clear ag ak o d ap
 go_wp2_with fail
 rw [←HA.out] at R
 refine R.out.mono ?_
 rintro e w3 ⟨rv,rfl,j,b,S,u⟩
 have G:Hid (fI H g v T=Ag g H.seen.length (fC H g A (ic v T))):=ab (by unfold fI;rw [HA.out])
 have bM:partsOf (ic v T).length≤128:=by
  have:=a9.out
  have h2:partsOf (ic v T).length≤placeOf H.seen.length:=lN (by rw [nQ];omega)
  omega
 obtain ⟨Q,hQ⟩:∃ Q,Q=fC H g A (ic v T):=⟨_,rfl⟩
 rw [←hQ] at j S u G
 obtain ⟨H1,rf⟩:=Q
 have av:=ab b
 have U:=ab S
 have V:=ab (u.mono (C:=B+128) (by omega))
 clear S u hQ R
 simp only at j U V G
 cases rf with
 | some f =>
  have bl:=ab (show jZ w2 w3 rv f from j)
  obtain ⟨eb,rfl,-,-⟩:=j
  clear b
  go_wp2
  go_ret
  refine ⟨_,rfl,?_⟩
  rw [G.out]
  exact ⟨bl.out.mono s.out.size,av.out,gV.fS s.out U.out,V.out⟩
 | none =>
  obtain rfl:rv = .nilIface:=j
  unfold LogAt at b
  have c2:w3.cell? ⟨lg,2,none⟩=some (.int .i64 (g.slot:Int)):=ae _ _ 2 _ _ _ b
  have c3:w3.cell? ⟨lg,3,none⟩=some (.int .i64 (g.next:Int)):=ae _ _ 3 _ _ _ b
  have f2:=aj _ _ 2 _ _ b
  have f3:=aj _ _ 3 _ _ b
  have bt:=fw b
  clear b
  go_wp2
  go_ret
  refine ⟨_,rfl,?_⟩
  rw [G.out,ba.out,show (2:Int)*(pl:Int)=((2*placeOf H.seen.length:Nat):Int) by rw [←al.out];omega]
  refine ⟨rfl,heap_setCell _ _ 3 _ (heap_setCell _ _ 2 _ av.out),((gV.fS s.out U.out).wO rfl J N _ _).wO rfl J N _ _,V.out⟩
theorem Cn (H:fx) (n:Nat) (s:List UInt8):(H.write n s).1.seen.length=H.seen.length:=by
 unfold fx.write
 split
 ·rfl
 ·exact bU
theorem CD (H:fx):H.flush.1.seen.length=H.seen.length:=by
 unfold fx.flush
 split
 ·rfl
 ·split <;> rfl
theorem tp:∀ (l:List (List UInt8)) (H:fx) (n:Nat),(fZ l H n).1.seen.length=H.seen.length
 | [],_,_=>rfl
 | s::l,H,n=>by
  unfold fZ
  have h1:=Cn H n s
  generalize H.write n s=q at h1⊢
  obtain ⟨b,d⟩:=q
  cases d with
  | some f=>exact h1
  | none=>exact (tp l b (n+1)).trans h1
theorem xK (H:fx) (g:LogS) (at':Nat) (data:List UInt8):(fC H g at' data).1.seen.length=H.seen.length:=by
 unfold fC
 have h1:=tp (fR (g.stamp+1) data) H at'
 generalize fZ (fR (g.stamp+1) data) H at'=q at h1⊢
 obtain ⟨b,d⟩:=q
 cases d with
 | some f=>exact h1
 | none=>exact (CD b).trans h1
theorem zp {H:fx} {g:LogS} {v:Nat} {T:List E} (h:(fI H g v T).2.2=none):(fI H g v T).2.1=⟨g.stamp+1,1-g.slot,2*placeOf H.seen.length⟩∧(fI H g v T).1.seen.length=H.seen.length:=by
 unfold fI at h⊢
 have h1:=xK H g ((1-g.slot)*placeOf H.seen.length) (ic v T)
 generalize fC H g ((1-g.slot)*placeOf H.seen.length) (ic v T)=q at h h1⊢
 obtain ⟨d,b⟩:=q
 cases b with
 | some f=>cases h
 | none=>exact ⟨rfl,h1⟩
theorem Bz (lg h:Nat) (F:Nat→Prop) (H:fx) (g:LogS) (B q off r v:Nat) (T:List E) (dv:Value) (b:List UInt8) (w:World) (hl:LogAt w lg h g) (hh:HostAt w F h H) (aa:HostOk H B) (hB:B≤800000000) (O:¬F lg) (he:EntAt w q off r T) (hq:¬F q∧q≠lg) (_hr:¬F r∧r≠lg)
  (bN:g.slot<2) (bO:sizeS T≤16*(H.seen.length-8)) (hT:T.length<65536) (hv:v<18446744073709551616) (bP:∀ x∈T,0≤x.1.1∧x.1.1<256∧x.1.2.length≤100∧x.2.length≤100) (cq:g.stamp<8999999999999999999)
  (am:BytesAt w dv b) (a9:∀ k,dv.ownBlock=some k→¬F k∧k≠lg∧k<w.heap.size) (cr:b.length≤700) (cs:g.next≤H.seen.length) :
  Calls Tryz.prog 119 #[.pointer (some ⟨lg,0,none⟩),dv,.int .u64 (v:Nat),.pointer (some ⟨q,off,none⟩)] w fun e w'=>∃ r,e = .returned r∧we w w' r (gF H g b v T).2.2∧LogAt w' lg h (gF H g b v T).2.1∧gV w F (fun k=>k=lg) h (gF H g b v T).1 w'∧HostOk (gF H g b v T).1 (B+256):=by
 have hn:=aa.n
 have ct:=iT hn.1 hn.2
 obtain ⟨P,hP⟩:∃ P,P=partsOf b.length:=⟨_,rfl⟩
 have ba:((b.length:Int)+53-1) / 53=(P:Int):=by rw [hP];unfold partsOf;omega
 have cl:P≤14:=by rw [hP];unfold partsOf;omega
 have bX:=ab ba
 have y:=ab hP
 have b0:=ab (nb h F H)
 have ap:=ab (fun (W:World) (hW:Below w.heap.size w W)=>sG lg h F H g B q off r v T W (fy hW (fw hl) hl) (hh.below hW) aa (by omega) O (he.below hW) bN bO hT hv bP (by omega))
 have cu:=l7 h
 have cv:=kA h
 obtain ⟨da,dc,rfl,cB,-⟩:=am.opened
 have R:=hl
 unfold LogAt at R
 have c0:w.cell? ⟨lg,0,none⟩=some (.iface 188 (.agg #[.pointer (some ⟨h,0,none⟩)])):=ae _ _ 0 _ _ _ R
 have c3:w.cell? ⟨lg,3,none⟩=some (.int .i64 (g.next:Int)):=ae _ _ 3 _ _ _ R
 have ag:=fw R
 have HH:=ab hh
 have HL:=ab hl
 have c1:=ab hh.lt
 have b2:=ab aa
 have bb:=ab am
 have G:=ab a9
 clear hl R hh aa am a9 hP ba
 go_enter Tryz.func119,Tryz.ntmps119
 go_wp2
 rw [bX.out]
 go_region_held3 (fun w'=>w'.cell? ⟨lg,0,none⟩=some (.iface 188 (.agg #[.pointer (some ⟨h,0,none⟩)]))∧w'.cell? ⟨lg,3,none⟩=some (.int .i64 (g.next:Int)))
  (first | exact ⟨c0,c3⟩ | exact ⟨(m.out.cell (p:=⟨lg,0,none⟩) ag).trans c0,(m.out.cell (p:=⟨lg,3,none⟩) ag).trans c3⟩)
  (first | (go_at_call 201;refine (b0.out _ (by first | exact HH.out | exact HH.out.frame (af _) (fun _ _=>rfl))).mono ?_;rintro e w1 ⟨rfl,av⟩;have m:Hid (Below w.heap.size w w1):=ab (by first | exact av | exact (Below.rf w).drew.tn av);clear av))
 rw [show IntKind.i64.wrap ((g.next:Int)+(P:Int))=((g.next+P:Nat):Int) by rw [←Int.natCast_add];exact IntWalk.i64_in _ (by omega)]
 obtain ⟨Y,hY⟩:∃ Y,Y=g.next+P:=⟨_,rfl⟩
 rw [←hY]
 have HY:=ab hY
 by_cases bc:H.seen.length<Y
 ·have bs:(H.seen.length:Int)<(Y:Int):=by omega
  clear hY c0 c3
  go_wp2_with fail
  refine (ap.out w1 m.out).mono ?_
  rintro e M ⟨S,rfl,i,d,o,j⟩
  obtain ⟨Q,D⟩:∃ Q,Q=fI H g v T:=⟨_,rfl⟩
  have N:Hid (gF H g b v T=EL b Q):=ab (by unfold gF;rw [aB (by rw [←y.out,←HY.out];exact bc),←D])
  have bd:Hid (Q.2.2=none→Q.2.1=⟨g.stamp+1,1-g.slot,2*placeOf H.seen.length⟩∧Q.1.seen.length=H.seen.length):=ab (by rw [D];exact zp)
  rw [←D] at i d o j
  obtain ⟨H1,g1,rf⟩:=Q
  have C:=ab d
  have s:=ab o
  have u:=ab j
  clear o j D ap
  simp only at i s u N bd C
  cases rf with
  | some f =>
   have U:=ab (show jZ w1 M S f from i)
   obtain ⟨eb,rfl,-,-⟩:=i
   clear d
   go_wp2
   go_ret
   refine ⟨_,rfl,?_⟩
   rw [N.out]
   exact ⟨U.out.mono m.out.size,C.out,gV.fS m.out s.out,u.out.mono (by omega)⟩
  | none =>
  obtain rfl:S = .nilIface:=i
  have I:Hid (gF H g b v T=gj H1 g1 b):=ab N.out
  obtain ⟨F1,bi,bk,bl⟩:=gV.fS m.out s.out
  have b5:=ab bi
  have ak:=ab bk
  have al:=ab bl
  have b6:=u
  obtain ⟨aE,b7⟩:=bd.out rfl
  have a0:g1.next=2*placeOf H.seen.length:=by rw [aE]
  have bv:g1.stamp=g.stamp+1:=by rw [aE]
  have a1:¬F1 lg:=fun e=>(ak.out lg e).elim O (fun h=>by omega)
  have bw:=ab a1
  have bx:Hid (BytesAt M (.slice da b.length dc) b):=ab (fH.frame bb.out fun k e hk=>al.out.block k hk fun e'=>e'.elim (G.out k e).1 (G.out k e).2.1)
  have bz:Hid (∀ k,(Value.slice da b.length dc).ownBlock=some k→¬F1 k∧k≠lg):=ab fun k e=>⟨fun hF=>(ak.out k hF).elim (G.out k e).1 (fun h=>by have:=(G.out k e).2.2;omega),(G.out k e).2.1⟩
  have b8:Hid (g1.next+partsOf b.length≤H1.seen.length):=ab (by rw [b7,a0,←y.out];omega)
  have bD:Hid (g1.stamp<9000000000000000000):=ab (by omega)
  have ca:g1.next+P≤1000:=by omega
  have V:=C.out
  have l:=V
  clear bi bk bl aE bv a1 a0 d
  unfold LogAt at l
  have e0:M.cell? ⟨lg,0,none⟩=some (.iface 188 (.agg #[.pointer (some ⟨h,0,none⟩)])):=ae _ _ 0 _ _ _ l
  have e3:M.cell? ⟨lg,3,none⟩=some (.int .i64 (g1.next:Int)):=ae _ _ 3 _ _ _ l
  have bI:=fw l
  have X:=ab (oq lg h F1 H1 g1 g1.next (B+128) (.slice da b.length dc) b M V b5.out b6.out (by omega) bw.out bx.out bz.out b8.out bD.out)
  clear l
  go_wp2_with fail
  refine X.out.mono ?_
  rintro e w5 ⟨S,rfl,i,d,o,j⟩
  obtain ⟨Q,D⟩:∃ Q,Q=fC H1 g1 g1.next b:=⟨_,rfl⟩
  have J:Hid (gj H1 g1 b=pd g1 b Q):=ab (by unfold gj;rw [←D])
  rw [←D] at i o j
  obtain ⟨H5,rf⟩:=Q
  have C:=ab d
  have s:=ab o
  have u:=ab j
  clear o j D X e0 e3
  simp only at i s u J
  cases rf with
  | some f =>
   have U:=ab (show jZ M w5 S f from i)
   obtain ⟨eb,rfl,-,-⟩:=i
   clear d
   go_wp2
   go_ret
   refine ⟨_,rfl,?_⟩
   rw [I.out,J.out]
   exact ⟨U.out.mono al.out.size,C.out,gV.trans ak.out al.out s.out,u.out.mono (by rw [←y.out];omega)⟩
  | none =>
   obtain rfl:S = .nilIface:=i
   unfold LogAt at d
   have d3:w5.cell? ⟨lg,3,none⟩=some (.int .i64 (g1.next:Int)):=ae _ _ 3 _ _ _ d
   have f3:=aj _ _ 3 _ _ d
   have bL:=fw d
   have Z:((g1.next:Int)+(P:Int))=((g1.next+partsOf b.length:Nat):Int):=by rw [y.out];omega
   have a2:=ab Z
   have bM:g1.next≤1000:=by omega
   clear d Z
   go_wp2
   go_ret
   refine ⟨_,rfl,?_⟩
   rw [I.out,J.out,a2.out]
   exact ⟨rfl,heap_setCell _ _ 3 _ C.out,(gV.trans ak.out al.out s.out).wO rfl O ag _ _,u.out.mono (by rw [←y.out];omega)⟩
 ·have bs:¬(H.seen.length:Int)<(Y:Int):=by omega
  have I:Hid (gF H g b v T=gj H g b):=ab (by unfold gF;rw [au (by rw [←y.out,←HY.out];exact bc)])
  have V:LogAt w1 lg h g:=fy m.out (fw HL.out) HL.out
  have l:=V
  have cb:g.next+P≤H.seen.length:=by omega
  have ca:g.next+P≤1000:=by omega
  clear hY c0 c3 ap
  unfold LogAt at l
  have e0:w1.cell? ⟨lg,0,none⟩=some (.iface 188 (.agg #[.pointer (some ⟨h,0,none⟩)])):=ae _ _ 0 _ _ _ l
  have e3:w1.cell? ⟨lg,3,none⟩=some (.int .i64 (g.next:Int)):=ae _ _ 3 _ _ _ l
  have bI:=fw l
  have X:=ab (oq lg h F H g g.next (B) (.slice da b.length dc) b w1 V (HH.out.below m.out) b2.out (by omega) O (bb.out.below m.out) (fun k e=>⟨(G.out k e).1,(G.out k e).2.1⟩) (by rw [←y.out];exact cb) (by omega))
  clear l
  go_wp2_with fail
  refine X.out.mono ?_
  rintro e w5 ⟨S,rfl,i,d,o,j⟩
  obtain ⟨Q,D⟩:∃ Q,Q=fC H g g.next b:=⟨_,rfl⟩
  have J:Hid (gj H g b=pd g b Q):=ab (by unfold gj;rw [←D])
  rw [←D] at i o j
  obtain ⟨H5,rf⟩:=Q
  have C:=ab d
  have s:=ab o
  have u:=ab j
  clear o j D X e0 e3
  simp only at i s u J
  cases rf with
  | some f =>
   have U:=ab (show jZ w1 w5 S f from i)
   obtain ⟨eb,rfl,-,-⟩:=i
   clear d
   go_wp2
   go_ret
   refine ⟨_,rfl,?_⟩
   rw [I.out,J.out]
   exact ⟨U.out.mono m.out.size,C.out,gV.fS m.out s.out,u.out.mono (by rw [←y.out];omega)⟩
  | none =>
   obtain rfl:S = .nilIface:=i
   unfold LogAt at d
   have d3:w5.cell? ⟨lg,3,none⟩=some (.int .i64 (g.next:Int)):=ae _ _ 3 _ _ _ d
   have f3:=aj _ _ 3 _ _ d
   have bL:=fw d
   have Z:((g.next:Int)+(P:Int))=((g.next+partsOf b.length:Nat):Int):=by rw [y.out];omega
   have a2:=ab Z
   have bM:g.next≤1000:=by omega
   clear d Z
   go_wp2
   go_ret
   refine ⟨_,rfl,?_⟩
   rw [I.out,J.out,a2.out]
   exact ⟨rfl,heap_setCell _ _ 3 _ C.out,(gV.fS m.out s.out).wO rfl O ag _ _,u.out.mono (by rw [←y.out];omega)⟩
end Go.Proofs.YtkkfmkhbdoeglaaGreatDoor
