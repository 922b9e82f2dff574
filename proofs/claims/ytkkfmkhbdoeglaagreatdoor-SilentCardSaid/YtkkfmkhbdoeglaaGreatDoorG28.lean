/- A part of what is proved here: lemmas and contracts of single functions. No condition but those that each names. -/
import Derived.Test.YtkkfmkhbdoeglaaGreatDoorG00
import Derived.LoopTactic
import Derived.Maps.OwnSet
import Derived.WideKeyEntry
import Derived.Test.YtkkfmkhbdoeglaaGreatDoorG04
import Derived.Test.YtkkfmkhbdoeglaaGreatDoorG07
import Derived.Test.YtkkfmkhbdoeglaaGreatDoorG18
import Derived.Test.YtkkfmkhbdoeglaaGreatDoorG21
import Derived.Test.YtkkfmkhbdoeglaaGreatDoorG23
namespace Go.Proofs.YtkkfmkhbdoeglaaGreatDoor.U
open Go.RowKit
abbrev K:=Nat
def kV (x:K):Value := .int .u64 (x:Int)
theorem gH (em:Bool) (x:K) (w:World):(Instr.checkKey em 10000 26 (kV x)).run Tryz.prog w = .ok () w:=by
 have h:∀ n,(Instr.checkKey em (n+1) 26 (kV x)).run Tryz.prog w = .ok () w:=by
  intro n
  simp [Instr.checkKey,kV,aL Tryz.underlying26,Result.andThen]
 exact h 9999
theorem rJ (x y:K) (w:World):(Op.equal 26 (kV x) (kV y)).run Tryz.prog w = .ok (x==y) w:=by
 have b:((x:Int)==(y:Int))=(x==y):=by
  rw [dD,bf,bf]
  exact Int.ofNat_inj
 have hd:∀ n,(Op.equalIn (n+1) 26 (kV x) (kV y)).run Tryz.prog w = .ok (x==y) w:=by
  intro n
  rw [←b]
  simp [Op.equalIn,kV,aL Tryz.underlying26]
 exact hd 9999
def gr (k:K):List (K×Value)→Nat→Option (Nat×Value)
 | [],_=>none
 | e::es,i=>if k==e.1 then some (i,e.2) else gr k es (i+1)
theorem Eh (x y:K):Instr.sameNow (.int .u64) (kV x) (kV y)=some (x==y):=by
 have b:((x:Int)==(y:Int))=(x==y):=by
  rw [dD,bf,bf]
  exact Int.ofNat_inj
 show some ((x:Int)==(y:Int))=_
 rw [b]
theorem jO (k:K) (w:World):∀ (es:List MapEntry) (l:List (K×Value)) (_:es.map (fun e=>(e.key,e.val))=l.map (fun x=>(kV x.1,x.2))),(Instr.findKey 26 (kV k) es).run Tryz.prog w = .ok (gr k l 0) w:=by
 have go:∀ (es:List MapEntry) (l:List (K×Value)) (i:Nat) (_:es.map (fun e=>(e.key,e.val))=l.map (fun x=>(kV x.1,x.2))),Instr.findNow (.int .u64) (kV k) es i=some (gr k l i):=by
  intro es
  induction es with
  | nil =>
   intro l i h
   cases l with
   | nil=>rfl
   | cons x l=>cases h
  | cons e es ih =>
   intro l i h
   cases l with
   | nil=>cases h
   | cons x l =>
    rw [bg,bg] at h
    have h1:=(List.cons.inj h).1
    have h2:=(List.cons.inj h).2
    have b:e.key=kV x.1:=(Prod.mk.inj h1).1
    have d:e.val=x.2:=(Prod.mk.inj h1).2
    unfold Instr.findNow gr
    rw [b,Eh]
    cases hk:(k==x.1) with
    | false=>exact ih l (i+1) h2
    | true =>
     rw [d]
     rfl
 intro es l h
 exact MapKept.run_findKey Tryz.underlying26 (go es l 0 h)
theorem nV (x:K) (w:World):(Instr.keyThatStays (kV x) (kV x)).run Tryz.prog w = .ok (kV x) w:=by
 have h:∀ n,Instr.sameBits (n+2) (kV x) (kV x)=true:=by
  intro n
  simp [Instr.sameBits,kV]
 have b:Instr.sameBits 10000 (kV x) (kV x)=true:=h 9998
 simp only [Instr.keyThatStays,b,dF]
 rfl
def fF (w:World) (r:Nat) (l:List (K×Value)):Prop :=
 ∃ es clock,w.heap[r]?=some (.map es clock)∧es.toList.map (fun e=>(e.key,e.val))=l.map (fun x=>(kV x.1,x.2))∧(∀ e∈es.toList,e.born<clock)∧(es.toList.map (·.born)).Nodup∧(l.map (·.1)).Nodup
theorem fF.lt {w:World} {r:Nat} {l:List (K×Value)} (h:fF w r l):r<w.heap.size:=by
 obtain ⟨es,clock,h,_⟩:=h
 exact fw h
theorem fF.fP {w w':World} {r:Nat} {l:List (K×Value)} (h:fF w r l) (b:w'.heap[r]?=w.heap[r]?):fF w' r l:=by
 obtain ⟨es,clock,h,x⟩:=h
 exact ⟨es,clock,b.trans h,x⟩
theorem fF.new (w:World):fF (w.alloc (.map #[] 0)) w.heap.size []:=⟨#[],0,fA _ _,rfl,by simp,by simp,by simp⟩
def mu (k:K) (l:List (K×Value)):Option Value:=(l.find? (fun x=>k==x.1)).map (·.2)
theorem jX (k:K):∀ (l:List (K×Value)) (i:Nat),(gr k l i).map (·.2)=mu k l
 | [],i=>rfl
 | x::l,i=>by
  unfold gr mu
  rw [dQ]
  cases h:(k==x.1) with
  | true=>rfl
  | false=>exact jX k l (i+1)
theorem oe (k:K):∀ (l:List (K×Value)) (i:Nat),(∀ x∈l,x.1≠k)→gr k l i=none
 | [],i,_=>rfl
 | x::l,i,h=>by
  unfold gr
  have:(k==x.1)=false:=by rw [aC];exact fun e=>h x cc e.symm
  rw [this]
  exact oe k l (i+1) fun y b=>h y (aR _ b)
section
variable {w:World} {r:Nat} {l:List (K×Value)} {mt e:TypeId} {z:Value}
theorem fF.lookup (h:fF w r l) (d:Tryz.prog.underlying mt=some (.map 26 e)) (m:(zeroValue e).run Tryz.prog w = .ok z w) (k:K) :
  (Instr.lookup mt (.map (some r)) (kV k) false).run Tryz.prog w = .ok ((mu k l).getD z) w:=by
 obtain ⟨es,clock,j,hl,_⟩:=h
 have b:=jO k w es.toList l hl
 rw [←jX k l 0]
 cases hk:gr k l 0 with
 | none =>
  rw [hk] at b
  simp [Instr.lookup,aL d,aJ j,gH,b,m,Result.andThen]
 | some x =>
  rw [hk] at b
  obtain ⟨i,v⟩:=x
  simp [Instr.lookup,aL d,aJ j,gH,b,Result.andThen]
theorem fF.jW (h:fF w r l) (d:Tryz.prog.underlying mt=some (.map 26 e)) (m:(zeroValue e).run Tryz.prog w = .ok z w) (k:K) :
  (Instr.lookup mt (.map (some r)) (kV k) true).run Tryz.prog w = .ok (.tuple #[(mu k l).getD z,.bool (mu k l).isSome]) w:=by
 obtain ⟨es,clock,j,hl,_⟩:=h
 have b:=jO k w es.toList l hl
 rw [←jX k l 0]
 cases hk:gr k l 0 with
 | none =>
  rw [hk] at b
  simp [Instr.lookup,aL d,aJ j,gH,b,m,Result.andThen]
 | some x =>
  rw [hk] at b
  obtain ⟨i,v⟩:=x
  simp [Instr.lookup,aL d,aJ j,gH,b,Result.andThen]
end
end Go.Proofs.YtkkfmkhbdoeglaaGreatDoor.U
namespace Go.Proofs.YtkkfmkhbdoeglaaGreatDoor.U
open Go.RowKit Go.WideElems Go.WideMaps Go.ChangeMaps
def lR (k:K) (v:Value) (l:List (K×Value)):List (K×Value) :=
 match gr k l 0 with
 | some (j,_)=>l.set j (k,v)
 | none=>l++[(k,v)]
def uO (k:K) (l:List (K×Value)):List (K×Value) :=
 match gr k l 0 with
 | some (j,_)=>l.eraseIdx j
 | none=>l
theorem jg (k:K):∀ (l:List (K×Value)) (i j:Nat) (v:Value),gr k l i=some (j,v)→i≤j∧l[j-i]?=some (k,v)
 | [],_,_,_,h=>by simp [gr] at h
 | x::l,i,j,v,h=>by
  unfold gr at h
  cases hk:(k==x.1) with
  | true =>
   rw [hk,aB rfl] at h
   cases h
   rw [bf] at hk
   subst hk
   simp
  | false =>
   rw [hk,au (by simp)] at h
   obtain ⟨h1,h2⟩:=jg k l (i+1) j v h
   refine ⟨by omega,?_⟩
   rw [show j-i=(j-(i+1))+1 by omega,aX]
   exact h2
theorem il (k:K):∀ (l:List (K×Value)) (i:Nat),gr k l i=none→∀ x∈l,x.1≠k
 | [],_,_,x,b=>by simp at b
 | y::l,i,h,x,b=>by
  unfold gr at h
  cases hk:(k==y.1) with
  | true=>rw [hk,aB rfl] at h;cases h
  | false =>
   rw [hk,au (by simp)] at h
   rcases aT.1 b with rfl | b
   ·rw [aC] at hk
    exact fun e=>hk e.symm
   ·exact il k l (i+1) h x b
theorem nW {l:List (K×Value)} {j:Nat} {k:K} {v u:Value} (h:l[j]?=some (k,u)):(l.set j (k,v)).map (·.1)=l.map (·.1):=by
 rw [cV]
 exact set_self _ _ _ (by rw [be,h];rfl)
theorem fN {w:World} {r:Nat} {es:Array MapEntry} {clock:Nat} {b:Obj} (h:w.heap[r]?=some (.map es clock)):w.grownBy (setBlock w r b) (some r) :=
 ⟨rfl,rfl,rfl,by simp [setBlock],fun k _ hk=>heap_setBlock_other h _ (fun e=>hk (by rw [e]))⟩
theorem fK {w:World} {r:Nat} {o b:Obj} (h:w.heap[r]?=some o):(setBlock w r b).heap[r]?=some b:=by
 have d:=fw h
 simp [setBlock,d]
section
variable {w:World} {r:Nat} {l:List (K×Value)} {mt e:TypeId} {z:Value}
theorem fF.entry (h:fF w r l) (S:Tryz.prog.underlying mt=some (.map 26 e)) (X:∀ u:World,(zeroValue e).run Tryz.prog u = .ok z u) (k:K) :
  ∃ m st,(∀ n,(Instr.mapEntry mt (.map (some r)) (kV k)).run Tryz.prog (w.drewN n) = .ok (.tuple #[(mu k l).getD z,goInt st]) (m.drewN n))∧fF m r (lR k ((mu k l).getD z) l)∧w.grownBy m (some r)∧m.heap.size=w.heap.size∧
   ∀ v,∃ D,(∀ n,(Instr.entryStore mt (.map (some r)) (goInt st) v).run Tryz.prog (m.drewN n) = .ok () (D.drewN n))∧fF D r (lR k v l)∧m.grownBy D (some r)∧D.heap.size=m.heap.size:=by
 obtain ⟨es,clock,B,hl,hc,E,hk⟩:=h
 have F:∀ n,(Instr.findKey 26 (kV k) es.toList).run Tryz.prog (w.drewN n) = .ok (gr k l 0) (w.drewN n):=fun n=>jO k (w.drewN n) es.toList l hl
 have q:∀ n,(w.drewN n).heap[r]?=some (.map es clock):=fun n=>B
 rw [←jX k l 0]
 unfold lR
 cases s:gr k l 0 with
 | none =>
  rw [s] at F
  have O:=il k l 0 s
  have G:(es.push ⟨kV k,z,clock⟩).toList.map (·.born)=es.toList.map (·.born)++[clock]:=by simp
  have C:((es.push ⟨kV k,z,clock⟩).toList.map (·.born)).Nodup:=by
   rw [G]
   refine b9.2 ⟨E,by simp,fun a ha c y U => ?_⟩
   simp only [aA] at y
   obtain ⟨x,d,rfl⟩:=az.1 ha
   have:=hc x d
   omega
  have M:∀ v:Value,((l++[(k,v)]).map (·.1)).Nodup:=fun v=>by
   rw [bA]
   refine b9.2 ⟨hk,by simp,fun a ha c y U => ?_⟩
   simp at y
   obtain ⟨x,d,rfl⟩:=az.1 ha
   exact O x d (U.trans y)
  have N:∀ v:Value,∀ x∈(es.push ⟨kV k,v,clock⟩).toList,x.born<clock+1:=by
   intro v x d
   simp at d
   rcases d with d | rfl
   ·have:=hc x (by simpa using d);omega
   ·simp
  have b:(setBlock w r (.map (es.push ⟨kV k,z,clock⟩) (clock+1))).heap[r]?=some (.map (es.push ⟨kV k,z,clock⟩) (clock+1)):=fK B
  refine ⟨setBlock w r (.map (es.push ⟨kV k,z,clock⟩) (clock+1)),clock,fun n => ?_,⟨_,_,b,by simp [hl],N z,C,M _⟩,fN B,by simp [setBlock],
   fun v=>⟨setBlock (setBlock w r (.map (es.push ⟨kV k,z,clock⟩) (clock+1))) r (.map (es.push ⟨kV k,v,clock⟩) (clock+1)),fun n => ?_,⟨_,_,fK b,by simp [hl],N v,by simpa using C,M _⟩,fN b,by simp [setBlock]⟩⟩
  ·simp [Instr.mapEntry,aL S,aJ (q n),gH,F,X,a8 _ (q n),Result.andThen]
   rfl
  ·have o:(es.push ⟨kV k,z,clock⟩).findIdx? (fun e=>((e.born:Nat):Int)==((clock:Nat):Int))=some es.size:=by
    rw [findIdx_arr]
    exact findIdx_born (l:=(es.push ⟨kV k,z,clock⟩).toList) (j:=es.size) (e0:=⟨kV k,z,clock⟩) C (by simp)
   have Q:(es.push ⟨kV k,z,clock⟩).modify es.size (fun e => {e with val:=v})=es.push ⟨kV k,v,clock⟩:=by
    apply Array.ext'
    rw [bC,fh,fh,←db,modify_last]
   have i:((setBlock w r (.map (es.push ⟨kV k,z,clock⟩) (clock+1))).drewN n).heap[r]?=some (.map (es.push ⟨kV k,z,clock⟩) (clock+1)):=b
   simp [Instr.entryStore,aJ i,asInt,asIntOf,goInt,o,Q,a8 _ i,Result.andThen]
   rfl
 | some x =>
  obtain ⟨j,u⟩:=x
  rw [s] at F
  obtain ⟨-,I⟩:=jg k l 0 j u s
  rw [cG] at I
  have V:∃ e0,es.toList[j]?=some e0∧e0.key=kV k∧e0.val=u:=by
   have h1:(es.toList.map (fun e=>(e.key,e.val)))[j]?=some (kV k,u):=by rw [hl,be,I];rfl
   rw [be] at h1
   obtain ⟨e0,h2,h3⟩:=ch.1 h1
   exact ⟨e0,h2,(Prod.mk.inj h3).1,(Prod.mk.inj h3).2⟩
  obtain ⟨e0,h2,h3,h4⟩:=V
  have W:es[j]?=some e0:=by simpa using h2
  have J:es.modify j (fun e => {e with key:=kV k})=es:=by
   apply Array.ext'
   rw [bC,cT _ _ _ _ h2]
   have:({e0 with key:=kV k} : MapEntry)=e0:=by rw [←h3]
   rw [this]
   exact set_self _ _ _ h2
  have R:l.set j (k,u)=l:=set_self _ _ _ I
  simp only [dR,bF,R]
  have b:(setBlock w r (.map es clock)).heap[r]?=some (.map es clock):=fK B
  refine ⟨setBlock w r (.map es clock),e0.born,fun n => ?_,⟨_,_,b,hl,hc,E,hk⟩,fN B,by simp [setBlock],
   fun v=>⟨setBlock (setBlock w r (.map es clock)) r (.map (es.modify j (fun e => {e with val:=v})) clock),fun n => ?_,⟨_,_,fK b,?_,?_,?_,?_⟩,fN b,by simp [setBlock]⟩⟩
  ·simp [Instr.mapEntry,aL S,aJ (q n),gH,F,W,h3,nV,J,a8 _ (q n),Result.andThen]
   rfl
  ·have o:es.findIdx? (fun e=>((e.born:Nat):Int)==((e0.born:Nat):Int))=some j:=by
    rw [findIdx_arr]
    exact findIdx_born E h2
   have i:((setBlock w r (.map es clock)).drewN n).heap[r]?=some (.map es clock):=b
   simp [Instr.entryStore,aJ i,asInt,asIntOf,goInt,o,a8 _ i,Result.andThen]
   rfl
  ·rw [bC,cT _ _ _ _ h2,cV,hl,cV,h3]
  ·intro x d
   rw [bC,cT _ _ _ _ h2] at d
   rcases cO d with d | rfl
   ·exact hc x d
   ·exact hc e0 (aU h2)
  ·rw [bC,cT _ _ _ _ h2,cV]
   rw [set_self _ _ _ (by rw [be,h2];rfl)]
   exact E
  ·rw [nW I]
   exact hk
end
end Go.Proofs.YtkkfmkhbdoeglaaGreatDoor.U
namespace Go.Proofs.YtkkfmkhbdoeglaaGreatDoor.U
open Go.RowKit Go.WideElems Go.ChangeMaps
section
variable {w:World} {r:Nat} {l:List (K×Value)} {mt e:TypeId} {z:Value}
theorem fF.update (h:fF w r l) (D:Tryz.prog.underlying mt=some (.map 26 e)) (k:K) (v:Value) :
  ∃ q,(∀ n,(Instr.mapUpdate mt (.map (some r)) (kV k) v).run Tryz.prog (w.drewN n) = .ok () (q.drewN n))∧fF q r (lR k v l)∧w.grownBy q (some r)∧q.heap.size=w.heap.size:=by
 obtain ⟨es,clock,o,hl,hc,E,hk⟩:=h
 have s:∀ n,(Instr.findKey 26 (kV k) es.toList).run Tryz.prog (w.drewN n) = .ok (gr k l 0) (w.drewN n):=fun n=>jO k (w.drewN n) es.toList l hl
 have d:∀ n,(w.drewN n).heap[r]?=some (.map es clock):=fun n=>o
 unfold lR
 cases i:gr k l 0 with
 | none =>
  rw [i] at s
  have B:=il k l 0 i
  have y:(es.push ⟨kV k,v,clock⟩).toList.map (·.born)=es.toList.map (·.born)++[clock]:=by simp
  have F:((es.push ⟨kV k,v,clock⟩).toList.map (·.born)).Nodup:=by
   rw [y]
   refine b9.2 ⟨E,by simp,fun a ha c m G => ?_⟩
   simp only [aA] at m
   obtain ⟨x,b,rfl⟩:=az.1 ha
   have:=hc x b
   omega
  have I:((l++[(k,v)]).map (·.1)).Nodup:=by
   rw [bA]
   refine b9.2 ⟨hk,by simp,fun a ha c m G => ?_⟩
   simp at m
   obtain ⟨x,b,rfl⟩:=az.1 ha
   exact B x b (G.trans m)
  have J:∀ x∈(es.push ⟨kV k,v,clock⟩).toList,x.born<clock+1:=by
   intro x b
   simp at b
   rcases b with b | rfl
   ·have:=hc x (by simpa using b);omega
   ·simp
  refine ⟨setBlock w r (.map (es.push ⟨kV k,v,clock⟩) (clock+1)),fun n => ?_,⟨_,_,fK o,by simp [hl],J,F,I⟩,fN o,by simp [setBlock]⟩
  simp [Instr.mapUpdate,aL D,aJ (d n),gH,s,a8 _ (d n),Result.andThen]
  rfl
 | some x =>
  obtain ⟨j,u⟩:=x
  rw [i] at s
  obtain ⟨-,C⟩:=jg k l 0 j u i
  rw [cG] at C
  have M:∃ e0,es.toList[j]?=some e0∧e0.key=kV k∧e0.val=u:=by
   have h1:(es.toList.map (fun e=>(e.key,e.val)))[j]?=some (kV k,u):=by rw [hl,be,C];rfl
   rw [be] at h1
   obtain ⟨e0,h2,h3⟩:=ch.1 h1
   exact ⟨e0,h2,(Prod.mk.inj h3).1,(Prod.mk.inj h3).2⟩
  obtain ⟨e0,h2,h3,h4⟩:=M
  have N:es[j]?=some e0:=by simpa using h2
  refine ⟨setBlock w r (.map (es.modify j (fun e => {e with key:=kV k,val:=v})) clock),fun n => ?_,⟨_,_,fK o,?_,?_,?_,?_⟩,fN o,by simp [setBlock]⟩
  ·simp [Instr.mapUpdate,aL D,aJ (d n),gH,s,N,h3,nV,a8 _ (d n),Result.andThen]
   rfl
  ·rw [bC,cT _ _ _ _ h2,cV,hl,cV]
  ·intro x b
   rw [bC,cT _ _ _ _ h2] at b
   rcases cO b with b | rfl
   ·exact hc x b
   ·exact hc e0 (aU h2)
  ·rw [bC,cT _ _ _ _ h2,cV]
   rw [set_self _ _ _ (by rw [be,h2];rfl)]
   exact E
  ·show ((l.set j (k,v)).map (·.1)).Nodup
   rw [nW C]
   exact hk
theorem gT {α β:Type} (f : α→β):∀ (l:List α) (j:Nat),(l.eraseIdx j).map f=(l.map f).eraseIdx j
 | [],_=>by simp
 | x::l,0=>rfl
 | x::l,j+1=>by simp [gT f l j]
theorem fF.delete (h:fF w r l) (s:Tryz.prog.underlying mt=some (.map 26 e)) (k:K) (t2 ty:TypeId) :
  ∃ m,(∀ n,(Builtin.delete_ #[mt,t2] ty #[.map (some r),kV k]).run Tryz.prog (w.drewN n) = .ok (.tuple #[]) (m.drewN n))∧fF m r (uO k l)∧w.grownBy m (some r)∧m.heap.size=w.heap.size:=by
 obtain ⟨es,clock,i,hl,hc,y,hk⟩:=h
 have o:∀ n,(Instr.findKey 26 (kV k) es.toList).run Tryz.prog (w.drewN n) = .ok (gr k l 0) (w.drewN n):=fun n=>jO k (w.drewN n) es.toList l hl
 have d:∀ n,(w.drewN n).heap[r]?=some (.map es clock):=fun n=>i
 unfold uO
 cases q:gr k l 0 with
 | none =>
  rw [q] at o
  refine ⟨setBlock w r (.map es clock),fun n => ?_,⟨_,_,fK i,hl,hc,y,hk⟩,fN i,by simp [setBlock]⟩
  simp [Builtin.delete_,aL s,aJ (d n),gH,o,a8 _ (d n),Result.andThen]
  rfl
 | some x =>
  obtain ⟨j,u⟩:=x
  rw [q] at o
  have b:(es.eraseIdxIfInBounds j).toList=es.toList.eraseIdx j:=by
   unfold Array.eraseIdxIfInBounds
   split
   ·simp
   ·rw [List.eraseIdx_of_length_le (by rw [db];omega)]
  refine ⟨setBlock w r (.map (es.eraseIdxIfInBounds j) clock),fun n => ?_,⟨_,_,fK i,?_,?_,?_,?_⟩,fN i,by simp [setBlock]⟩
  ·simp [Builtin.delete_,aL s,aJ (d n),gH,o,a8 _ (d n),Result.andThen]
   rfl
  ·rw [b,gT,hl,gT]
  ·intro x B
   rw [b] at B
   exact hc x ((dG _ _).subset B)
  ·rw [b,gT]
   exact y.sublist (dG _ _)
  ·show ((l.eraseIdx j).map (·.1)).Nodup
   rw [gT]
   exact hk.sublist (dG _ _)
end
end Go.Proofs.YtkkfmkhbdoeglaaGreatDoor.U
namespace Go.Proofs.YtkkfmkhbdoeglaaGreatDoor.U
open Go.RowKit
theorem oF {k:K} {v:Value} : ∀ {L:List (K×Value)},(L.map (·.1)).Nodup→(mu k L=some v↔(k,v)∈L)
 | [],_=>by simp [mu]
 | y::L,h=>by
  rw [bg,dj] at h
  unfold mu
  rw [dQ]
  cases hk:(k==y.1) with
  | true =>
   rw [bf] at hk
   subst hk
   simp only [dR,eC,aT]
   constructor
   ·rintro rfl;exact .inl rfl
   ·rintro (e | hm)
    ·rw [←e]
    ·exact absurd (az.2 ⟨_,hm,rfl⟩) h.1
  | false =>
   rw [aC] at hk
   have := @oF k v L h.2
   unfold mu at this
   simp only [this,aT]
   constructor
   ·exact .inr
   ·rintro (e | hm)
    ·exact absurd (by rw [←e]) hk
    ·exact hm
theorem pQ {l:List K} (h:l.Nodup) {i j:Nat} (b:i<l.length) (d:j<l.length) (e:l[i]=l[j]):i=j :=
 (List.getElem?_inj b h).1 (by rw [aw b,aw d,e])
theorem pD (k:K) (v:Value) {L:List (K×Value)} (r:(L.map (·.1)).Nodup) (x:K×Value):x∈lR k v L↔x=(k,v)∨(x∈L∧x.1≠k):=by
 unfold lR
 cases m:gr k L 0 with
 | none =>
  have ha:=il k L 0 m
  simp only [bQ,aA]
  constructor
  ·rintro (h | h)
   ·exact .inr ⟨h,ha x h⟩
   ·exact .inl h
  ·rintro (h | h)
   ·exact .inr h
   ·exact .inl h.1
 | some y =>
  obtain ⟨j,u⟩:=y
  obtain ⟨-,o⟩:=jg k L 0 j u m
  rw [cG] at o
  obtain ⟨d,l⟩:=aF.1 o
  simp only
  constructor
  ·intro h
   obtain ⟨i,b,e⟩:=cD h
   rw [List.getElem_set] at e
   rw [bU] at b
   split at e
   ·exact .inl e.symm
   ·rename_i q
    refine .inr ⟨e▸cL b,fun hk=>q ?_⟩
    have h1:(L.map (·.1))[j]'(by simpa using d)=k:=by simp [l]
    have h2:(L.map (·.1))[i]'(by simpa using b)=k:=by simp [e,hk]
    exact pQ r _ _ (h1.trans h2.symm)
  ·rintro (h | ⟨h1,h2⟩)
   ·rw [h]
    exact aU (i:=j) (by rw [dT d])
   ·obtain ⟨i,b,rfl⟩:=cD h1
    refine aU (i:=i) ?_
    rw [eo (fun e=>h2 (by subst e;rw [l])),aw b]
theorem z7 (k:K) (v:Value) {L:List (K×Value)} (b:(L.map (·.1)).Nodup):((lR k v L).map (·.1)).Nodup:=by
 unfold lR
 cases d:gr k L 0 with
 | none =>
  have ha:=il k L 0 d
  show ((L++[(k,v)]).map (·.1)).Nodup
  rw [bA]
  refine b9.2 ⟨b,by simp,fun a i c hc e => ?_⟩
  simp at hc
  obtain ⟨x,m,rfl⟩:=az.1 i
  exact ha x m (e.trans hc)
 | some y =>
  obtain ⟨j,u⟩:=y
  obtain ⟨-,l⟩:=jg k L 0 j u d
  rw [cG] at l
  show ((L.set j (k,v)).map (·.1)).Nodup
  rw [nW l]
  exact b
theorem kU (k b:K) (v:Value) {L:List (K×Value)} (d:(L.map (·.1)).Nodup):mu b (lR k v L)=if b=k then some v else mu b L:=by
 have h1:∀ u,mu b (lR k v L)=some u↔(b,u)∈lR k v L:=fun u=>oF (z7 k v d)
 have h2:∀ u,mu b L=some u↔(b,u)∈L:=fun u=>oF d
 by_cases e:b=k
 ·rw [aB e]
  exact (h1 v).2 ((pD k v d _).2 (.inl (by rw [e])))
 ·rw [au e]
  cases ha:mu b L with
  | some u=>exact (h1 u).2 ((pD k v d _).2 (.inr ⟨(h2 u).1 ha,e⟩))
  | none =>
   cases i:mu b (lR k v L) with
   | none=>rfl
   | some u =>
    rcases (pD k v d _).1 ((h1 u).1 i) with h | ⟨h,-⟩
    ·exact absurd (bG Prod.fst h) e
    ·rw [(h2 u).2 h] at ha
     cases ha
theorem fF.yQ {w:World} {r:Nat} {L:List (K×Value)} (h:fF w r L):(L.map (·.1)).Nodup:=by
 obtain ⟨es,c,-,-,-,-,b⟩:=h
 exact b
end Go.Proofs.YtkkfmkhbdoeglaaGreatDoor.U
namespace Go.Proofs.YtkkfmkhbdoeglaaGreatDoor
def Fh (o:OpB):K:=(o.table,o.key)
theorem Gb (S:List E) (o:OpB) (x:E):x∈CC S o↔(o.kind=1∧x=(Fh o,o.val))∨(x∈S∧x.1≠Fh o):=by
 unfold CC Fh
 split
 ·rename_i h
  rw [iY]
  simp [h]
 ·rename_i h
  rw [lQ]
  simp [h]
theorem rT (p q:E→Bool) (h:∀ x,p x=true→q x=false):∀ S:List E,(S.filter p).length+(S.filter q).length≤S.length
 | []=>af _
 | x::S=>by
  have ih:=rT p q h S
  cases b:p x with
  | true =>
   rw [fa b,ey (by rw [h x b];decide)]
   simp only [ar]
   omega
  | false =>
   rw [ey (by rw [b];decide)]
   have:=dh q [x]
   cases hq:q x with
   | true=>rw [fa hq];simp only [ar];omega
   | false=>rw [ey (by rw [hq];decide)];simp only [ar];omega
theorem Dz (S:List E) (o:OpB):(CC S o).length≤S.length+1:=by
 unfold CC
 split
 ·unfold jS
  rw [aq,ar]
  exact Nat.succ_le_succ (rT _ _ (fun x h=>mw h) S)
 ·unfold ng
  exact eF (dh _ S)
theorem pE:∀ (os:List OpB) {S:List E} (_:SortedE S),(foldS S os).length≤S.length+os.length
 | [],_,_=>af _
 | o::os,S,hs=>by
  have h1:=Dz S o
  have h2:=pE os (wv o hs)
  show (foldS (CC S o) os).length≤_
  simp only [ar]
  omega
end Go.Proofs.YtkkfmkhbdoeglaaGreatDoor
namespace Go.Proofs.YtkkfmkhbdoeglaaGreatDoor
open Go.RowKit
def EntGood (x:E):Prop:=0≤x.1.1∧x.1.1<3∧gR x.1.1 x.1.2=true∧gi x.1.1 x.2=true
theorem rC:∀ (os:List OpB) (S:List E) (x:E),x∈foldS S os→x∈S∨∃ o∈os,o.kind=1∧x=(Fh o,o.val)
 | [],_,_,h => .inl h
 | o::os,S,x,h=>by
  rcases rC os (CC S o) x h with h | ⟨u,hu,e⟩
  ·rcases (Gb S o x).1 h with ⟨b,e⟩ | ⟨h,-⟩
   ·exact .inr ⟨o,by simp,b,e⟩
   ·exact .inl h
  ·exact .inr ⟨u,by simp [hu],e⟩
theorem pW {v:Nat} {os:List OpB} (h:gE v os=none):os.length≤8∧∀ o∈os,(o.kind=1∨o.kind=2)∧0≤o.table∧o.table<3∧gR o.table o.key=true∧oQ o=true:=by
 have b:os.length≤8∧fJ 0 [] os=none:=by
  unfold gE at h
  split at h
  ·cases h
  ·split at h
   ·cases h
   ·exact ⟨by omega,h⟩
 refine ⟨b.1,fun o i => ?_⟩
 obtain ⟨k,hk,rfl⟩:=cD i
 obtain ⟨j,d⟩:=iK os 0 [] b.2 k hk
 obtain ⟨h1,h2,h3,h4,-,h6⟩:=l6 d
 exact ⟨h1,h2,h3,h4,h6⟩
structure jq (m:Nat) (S:List E):Prop where
 len:S.length≤m
 sorted:SortedE S
 good:∀ x∈S,EntGood x
theorem jq.nil (m:Nat):jq m []:=⟨aK _,SortedE.nil,fun _ h=>by cases h⟩
theorem jq.fold {m:Nat} {S:List E} {v:Nat} {os:List OpB} (h:jq m S) (hw:gE v os=none):jq (m+8) (foldS S os):=by
 obtain ⟨h8,d⟩:=pW hw
 refine ⟨?_,nf os h.sorted,fun x b => ?_⟩
 ·have:=pE os h.sorted
  have:=h.len
  omega
 ·rcases rC os S x b with b | ⟨o,hm,hk,rfl⟩
  ·exact h.good x b
  ·obtain ⟨-,h2,h3,h4,h6⟩:=d o hm
   unfold oQ at h6
   rw [au (by omega)] at h6
   exact ⟨h2,h3,h4,h6⟩
theorem jq.mono {m b:Nat} {S:List E} (h:jq m S) (hm:m≤b):jq b S:=⟨aH h.len hm,h.sorted,h.good⟩
theorem jq.apply {m:Nat} {S:List E} (h:jq m S) (v:Nat) (os:List OpB):jq (m+8) (EA v S os):=by
 unfold EA
 cases hw:gE v os with
 | none=>exact h.fold hw
 | some f=>exact h.mono (by omega)
theorem jq.fit {m:Nat} {S:List E} (h:jq m S):Hc S:=fun x i=>by
 obtain ⟨g0,g2,g3,g4⟩:=h.good x i
 have b:=jm g3
 have d:=iL g0 g2 g4
 have j:x.1.1=0∨x.1.1=1∨x.1.1=2:=by omega
 rcases j with e | e | e <;> (rw [e] at b d;unfold fB at b;unfold fO at d;simp at b d;omega)
end Go.Proofs.YtkkfmkhbdoeglaaGreatDoor
namespace Go.Proofs.YtkkfmkhbdoeglaaGreatDoor
open Go.RowKit
theorem qQ (x:UInt8):UInt8.ofNat x.toNat=x:=by simp
theorem pq (x:E):jl x=UInt8.ofNat x.1.1.toNat::(x.1.2++x.2):=rfl
theorem Bp (s:List UInt8) (q:Nat) (o:Option K) (x:E) (rest:List UInt8) (m:EntGood x) (r:∀ k,o=some k→pI k x.1=true) (hd:s.drop q=jl x++rest) :
  kG s q o = .inl (x,q+(jl x).length):=by
 obtain ⟨⟨T,i⟩,d⟩:=x
 obtain ⟨g0,g3,hk,l⟩:=m
 simp only at g0 g3 hk l
 have j:=jm hk
 have lv:=iL g0 g3 l
 have u:((UInt8.ofNat T.toNat).toNat:Int)=T:=by simp;omega
 have e0:s.drop q=UInt8.ofNat T.toNat::(i++d++rest):=by rw [hd,pq];simp
 have t1:(i++d++rest).take (fB T)=i:=by rw [bq,←j,dY]
 have t2:((i++d++rest).drop (fB T)).take (fO T)=d:=by rw [bq,←j,ew,←lv,dY]
 have hl:(i++d++rest).length=fB T+fO T+rest.length:=by simp [j,lv];omega
 have hq:q+(jl ((T,i),d)).length=q+1+fB T+fO T:=by rw [pq];simp [j,lv];omega
 unfold kG
 rw [e0,hq]
 simp only [u,t1,t2]
 rw [au (by omega),au (by omega),au (by rw [hk];decide)]
 have h4:∀ b:Bool,(b=true)→(if b=false then Sum.inr (14,q+1) else if (i++d++rest).length<fB T+fO T then .inr (1,q+1+fB T) else if gi T d=false then .inr (9,q+1+fB T) else .inl (((T,i),d),q+1+fB T+fO T):(E×Nat)⊕(Nat×Nat)) = .inl (((T,i),d),q+1+fB T+fO T):=by
  intro b y
  rw [y,au (by decide),au (by omega),au (by rw [l];decide)]
 cases o with
 | none=>exact h4 true rfl
 | some k=>exact h4 _ (r k rfl)
theorem rj (s:List UInt8):∀ (l es:List E) (q:Nat) (rest:List UInt8),SortedE (es++l)→(∀ x∈l,EntGood x)→s.drop q=jc l++rest→iE s l.length q es = .inl (q+(jc l).length,es++l)
 | [],es,q,rest,_,_,_=>by simp [iE,jc]
 | x::l,es,q,rest,hs,i,hd=>by
  have b:jc (x::l)=jl x++jc l:=rfl
  have j:∀ k,es.getLast?.map (·.1)=some k→pI k x.1=true:=fun k hk=>by
   cases d:es.getLast? with
   | none=>rw [d] at hk;cases hk
   | some z =>
    rw [d] at hk
    cases hk
    exact (ek.1 hs).2.2 z (List.mem_of_getLast? d) x (by simp)
  have h1:=Bp s q (es.getLast?.map (·.1)) x (jc l++rest) (i x (by simp)) j (by rw [hd,b,bq])
  have ih:=rj s l (es++[x]) (q+(jl x).length) rest (by simpa using hs) (fun y m=>i y (by simp [m])) (by rw [←cK,hd,b,bq,ew])
  rw [ar,iE,h1]
  simp only []
  rw [ih,b,aq,aY]
  simp
theorem yE {v:Nat} {S:List E} (i:isVersionB v=true) (hs:SortedE S) (m:∀ x∈S,EntGood x) (hl:S.length<65536):im (ic v S) = .inl (v,S):=by
 have h8:(j4 v).length=8:=fQ v
 have e:ic v S=j4 v++(UInt8.ofNat (S.length / 256)::UInt8.ofNat S.length::jc S):=by unfold ic;simp
 have o:(ic v S).take 8=j4 v:=by rw [e,←h8,dY]
 have b:(ic v S).drop 8=UInt8.ofNat (S.length / 256)::UInt8.ofNat S.length::jc S:=by rw [e,←h8,ew]
 have el:(ic v S).length=10+(jc S).length:=by rw [e];simp [h8];omega
 have j:(ic v S).getD 8 0=UInt8.ofNat (S.length / 256):=by
  have:((ic v S).drop 8)[0]?=some (UInt8.ofNat (S.length / 256)):=by rw [b];rfl
  rw [dm] at this
  rw [aN,this];rfl
 have l:(ic v S).getD 9 0=UInt8.ofNat S.length:=by
  have:((ic v S).drop 8)[1]?=some (UInt8.ofNat S.length):=by rw [b];rfl
  rw [dm] at this
  rw [aN,this];rfl
 have d:(ic v S).drop 10=jc S++[]:=by
  have:((ic v S).drop 8).drop 2=jc S:=by rw [b];rfl
  rw [cK] at this
  rw [this,cZ]
 have q:(UInt8.ofNat (S.length / 256)).toNat*256+(UInt8.ofNat S.length).toNat=S.length:=by simp;omega
 rw [mZ]
 unfold lC
 rw [au (by omega),o,uP v (kh i),au (by rw [i];decide),au (by omega),j,l,q,rj (ic v S) S [] 10 [] hs m d]
 simp only []
 rw [au (by omega),aO]
theorem BJ {s:List UInt8} {q b:Nat} {o:Option K} {x:E} (h:kG s q o = .inl (x,b)):EntGood x∧s.drop q=jl x++s.drop b:=by
 obtain ⟨-,-,i,h3,hk,j,-⟩:=oA h
 refine ⟨⟨i,h3,hk,j⟩,?_⟩
 have u:=jm hk
 have lv:=iL i h3 j
 unfold kG at h
 cases hd:s.drop q with
 | nil=>rw [hd] at h;cases h
 | cons t r =>
  rw [hd] at h
  have key:∀ c:Bool,(if 2<t.toNat then Sum.inr (6,q)
   else if r.length<fB (t.toNat:Int) then .inr (1,q+1)
   else if gR (t.toNat:Int) (r.take (fB (t.toNat:Int)))=false then .inr (7,q+1)
   else if c=false then .inr (14,q+1)
   else if r.length<fB (t.toNat:Int)+fO (t.toNat:Int) then .inr (1,q+1+fB (t.toNat:Int))
   else if gi (t.toNat:Int) ((r.drop (fB (t.toNat:Int))).take (fO (t.toNat:Int)))=false then .inr (9,q+1+fB (t.toNat:Int))
   else .inl ((((t.toNat:Int),r.take (fB (t.toNat:Int))),(r.drop (fB (t.toNat:Int))).take (fO (t.toNat:Int))),q+1+fB (t.toNat:Int)+fO (t.toNat:Int)))=(.inl (x,b):(E×Nat)⊕(Nat×Nat))→
   x=(((t.toNat:Int),r.take (fB (t.toNat:Int))),(r.drop (fB (t.toNat:Int))).take (fO (t.toNat:Int)))∧b=q+1+fB (t.toNat:Int)+fO (t.toNat:Int):=by
   intro c h
   split at h
   ·cases h
   split at h
   ·cases h
   split at h
   ·cases h
   split at h
   ·cases h
   split at h
   ·cases h
   split at h
   ·cases h
   obtain ⟨d,hq⟩:=Prod.mk.inj (Sum.inl.inj h)
   exact ⟨d.symm,hq.symm⟩
  have d:x=(((t.toNat:Int),r.take (fB (t.toNat:Int))),(r.drop (fB (t.toNat:Int))).take (fO (t.toNat:Int)))∧b=q+1+fB (t.toNat:Int)+fO (t.toNat:Int):=by
   cases o with
   | none=>exact key true h
   | some y=>exact key _ h
  obtain ⟨rfl,rfl⟩:=d
  have l:=(drop1 hd).1
  rw [pq]
  simp only [dN,qQ]
  have m:s.drop (q+1+fB (t.toNat:Int)+fO (t.toNat:Int))=(r.drop (fB (t.toNat:Int))).drop (fO (t.toNat:Int)):=by
   rw [←l,cK,cK,aY]
  rw [m,aV,bq,cU,cU]
theorem qK {s:List UInt8} : ∀ {n q d:Nat} {es b:List E},iE s n q es = .inl (d,b)→q≤s.length→∃ l,b=es++l∧(∀ x∈l,EntGood x)∧s.drop q=jc l++s.drop d∧d≤s.length
 | 0,q,d,es,b,h,hq=>by
  obtain ⟨rfl,rfl⟩:=Prod.mk.inj (Sum.inl.inj h)
  exact ⟨[],by simp,(fun x i=>by cases i),by simp [jc],hq⟩
 | n+1,q,d,es,b,h,hq=>by
  unfold iE at h
  cases he:kG s q (es.getLast?.map (·.1)) with
  | inr f=>rw [he] at h;cases h
  | inl r =>
   obtain ⟨x,u⟩:=r
   rw [he] at h
   obtain ⟨l,rfl,hl,hd,m⟩:=qK h (oA he).2.1
   obtain ⟨i,o⟩:=BJ he
   refine ⟨x::l,by simp,fun y j => ?_,?_,m⟩
   ·rcases aT.1 j with rfl | j
    ·exact i
    ·exact hl y j
   ·rw [o,hd]
    show _=jl x++jc l++_
    rw [bq]
theorem np {s:List UInt8} {n:Nat} {S:List E} (h:im s = .inl (n,S)):isVersionB n=true∧(∀ x∈S,EntGood x)∧ic n S=s:=by
 have hlen:=(po h).1
 rw [mZ] at h
 unfold lC at h
 split at h
 ·cases h
 split at h
 ·cases h
 split at h
 ·cases h
 rename_i h1 h2 h3
 cases hc:iE s ((s.getD 8 0).toNat*256+(s.getD 9 0).toNat) 10 [] with
 | inr f=>rw [hc] at h;cases h
 | inl x =>
  obtain ⟨m,b⟩:=x
  rw [hc] at h
  simp only at h
  split at h
  ·cases h
  rename_i h4
  obtain ⟨rfl,rfl⟩:=Prod.mk.inj (Sum.inl.inj h)
  have i:=oa hc
  obtain ⟨l,hl,d,hd,hq⟩:=qK hc (by omega)
  rw [aO] at hl
  subst hl
  rw [aM,bE] at i
  refine ⟨by simpa using h2,d,?_⟩
  have j:s.drop m=[]:=List.drop_eq_nil_of_le (by omega)
  rw [j,cZ] at hd
  have ha:=(s.getD 8 0).toNat_lt
  have o:=(s.getD 9 0).toNat_lt
  have y:(s.getD 8 0).toNat<256:=ha
  have B:(s.getD 9 0).toNat<256:=o
  have q:b.length / 256=(s.getD 8 0).toNat:=by omega
  have r:UInt8.ofNat b.length=s.getD 9 0:=by
   apply eh.1
   have h9:(UInt8.ofNat b.length).toNat=b.length%256:=by simp
   rw [h9]
   omega
  unfold ic
  rw [yk _ (by rw [aD];omega),q,qQ,r,←hd]
  have g8:s.getD 8 0=s[8]'(by omega):=by rw [aN,aw (by omega)];rfl
  have g9:s.getD 9 0=s[9]'(by omega):=by rw [aN,aw (by omega)];rfl
  rw [g8,g9]
  have u:s.drop 8=s[8]'(by omega)::s[9]'(by omega)::s.drop 10:=by
   rw [cn (by omega),cn (by omega)]
  calc s.take 8++[s[8]'(by omega),s[9]'(by omega)]++s.drop 10=s.take 8++s.drop 8:=by rw [u];simp
   _=s:=cU 8 s
end Go.Proofs.YtkkfmkhbdoeglaaGreatDoor
