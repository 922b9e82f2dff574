/- A part of what is proved here: lemmas and contracts of single functions. No condition but those that each names. -/
import Derived.Test.YtkkfmkhbdoeglaaGreatDoorG00
import Derived.LoopTactic
import Derived.Maps.OwnSet
import Derived.WideKeyEntry
import Derived.Test.YtkkfmkhbdoeglaaGreatDoorG02
import Derived.Test.YtkkfmkhbdoeglaaGreatDoorG03
set_option maxHeartbeats 1000000
set_option maxRecDepth 100000
namespace Go.Proofs.YtkkfmkhbdoeglaaGreatDoor
open Go.RowKit
abbrev K:=Int×List UInt8
def kV (x:K):Value:=iD x.1 x.2
theorem gH (em:Bool) (x:K) (w:World):(Instr.checkKey em 10000 94 (kV x)).run Tryz.prog w = .ok () w:=by
 have h:∀ n,(Instr.checkKey em (n+2) 94 (kV x)).run Tryz.prog w = .ok () w:=by
  intro n
  have h1:(part 3 #[Value.int .i64 x.1,.string ⟨x.2.toArray⟩] 0).run Tryz.prog w = .ok (.int .i64 x.1) w:=cJ w (by kernel_rfl) rfl
  have h2:(part 9 #[Value.int .i64 x.1,.string ⟨x.2.toArray⟩] 1).run Tryz.prog w = .ok (.string ⟨x.2.toArray⟩) w:=cJ w (by kernel_rfl) rfl
  simp [Instr.checkKey,kV,iD,aL Tryz.underlying94,aL Tryz.underlying3,aL Tryz.underlying9,h1,h2,Result.andThen]
 exact h 9998
theorem rJ (x y:K) (w:World):(Op.equal 94 (kV x) (kV y)).run Tryz.prog w = .ok (x==y) w:=by
 have h1:∀ x:K,(part 3 #[Value.int .i64 x.1,.string ⟨x.2.toArray⟩] 0).run Tryz.prog w = .ok (.int .i64 x.1) w:=fun x=>cJ w (by kernel_rfl) rfl
 have h2:∀ x:K,(part 9 #[Value.int .i64 x.1,.string ⟨x.2.toArray⟩] 1).run Tryz.prog w = .ok (.string ⟨x.2.toArray⟩) w:=fun x=>cJ w (by kernel_rfl) rfl
 obtain ⟨a,b⟩:=x
 obtain ⟨c,d⟩:=y
 have hd:∀ n,(Op.equalIn (n+2) 94 (iD a b) (iD c d)).run Tryz.prog w = .ok ((a,b)==(c,d)) w:=by
  intro n
  have l:((⟨b.toArray⟩:ByteArray)==⟨d.toArray⟩)=(b==d):=by
   cases i:(b==d) with
   | true=>rw [bf] at i;subst i;exact (cM _ _).2 rfl
   | false =>
    rw [aC] at i
    cases o:((⟨b.toArray⟩:ByteArray)==⟨d.toArray⟩) with
    | false=>rfl
    | true =>
     have:=(cM _ _).1 o
     simp at this
     exact absurd this i
  have j:Tryz.prog.underlying 94=some (.struct (Tryz.prog.fieldsOf 94)):=by kernel_rfl
  have q:Tryz.prog.stoodInHeld 94=false:=by kernel_rfl
  have r:=TypeDesc.struct.inj (Option.some.inj (j.symm.trans Tryz.underlying94))
  have s:∀ m (x y:Int),(Op.equalIn (m+1) 3 (.int .i64 x) (.int .i64 y)).run Tryz.prog w = .ok (x==y) w:=fun m x y=>by simp [Op.equalIn,aL Tryz.underlying3]
  have u:∀ m (x y:ByteArray),(Op.equalIn (m+1) 9 (.string x) (.string y)).run Tryz.prog w = .ok (x==y) w:=fun m x y=>by simp [Op.equalIn,aL Tryz.underlying9]
  unfold iD
  rw [eQ w (n+1) 94 _ _ j q,r]
  simp only [Op.eqFields]
  rw [aB (by decide),aB (by decide)]
  simp only [ck,h1 (a,b),h1 (c,d),s,bZ]
  show _=Result.ok ((a==c)&&(b==d)) w
  cases B:(a==c) with
  | false=>simp
  | true =>
   simp only [Bool.not_true,dZ,cX,ck,h2 (a,b),h2 (c,d),u,bZ,l,Bool.true_and]
   cases (b==d) <;> simp
 exact hd 9998
def gr (k:K):List (K×Value)→Nat→Option (Nat×Value)
 | [],_=>none
 | e::es,i=>if k==e.1 then some (i,e.2) else gr k es (i+1)
theorem jO (k:K) (w:World):∀ (es:List MapEntry) (l:List (K×Value)) (_:es.map (fun e=>(e.key,e.val))=l.map (fun x=>(kV x.1,x.2))),(Instr.findKey 94 (kV k) es).run Tryz.prog w = .ok (gr k l 0) w:=by
 have go:∀ (es:List MapEntry) (l:List (K×Value)) (i:Nat) (_:es.map (fun e=>(e.key,e.val))=l.map (fun x=>(kV x.1,x.2))),(Instr.findAsking 94 (kV k) es i).run Tryz.prog w = .ok (gr k l i) w:=by
  intro es
  induction es with
  | nil =>
   intro l i h
   cases l with
   | nil=>rfl
   | cons x l=>cases h
  | cons e es ih =>
   intro l i h
   cases l with
   | nil=>cases h
   | cons x l =>
    rw [bg,bg] at h
    have h1:=(List.cons.inj h).1
    have h2:=(List.cons.inj h).2
    have b:e.key=kV x.1:=(Prod.mk.inj h1).1
    have d:e.val=x.2:=(Prod.mk.inj h1).2
    unfold Instr.findAsking gr
    rw [ck,b,rJ]
    cases hk:(k==x.1) with
    | false =>
     rw [bZ]
     exact ih l (i+1) h2
    | true =>
     rw [d]
     rfl
 intro es l h
 rw [run_findKey_eq w (k:=94) (by rw [Tryz.underlying94])]
 exact go es l 0 h
theorem nV (x:K) (w:World):(Instr.keyThatStays (kV x) (kV x)).run Tryz.prog w = .ok (kV x) w:=by
 have h:∀ n,Instr.sameBits (n+2) (kV x) (kV x)=true:=by
  intro n
  simp [Instr.sameBits,kV,iD]
  exact (cM _ _).2 rfl
 have b:Instr.sameBits 10000 (kV x) (kV x)=true:=h 9998
 simp only [Instr.keyThatStays,b,dF]
 rfl
def fF (w:World) (r:Nat) (l:List (K×Value)):Prop :=
 ∃ es clock,w.heap[r]?=some (.map es clock)∧es.toList.map (fun e=>(e.key,e.val))=l.map (fun x=>(kV x.1,x.2))∧(∀ e∈es.toList,e.born<clock)∧(es.toList.map (·.born)).Nodup∧(l.map (·.1)).Nodup
theorem fF.lt {w:World} {r:Nat} {l:List (K×Value)} (h:fF w r l):r<w.heap.size:=by
 obtain ⟨es,clock,h,_⟩:=h
 exact fw h
theorem fF.fP {w w':World} {r:Nat} {l:List (K×Value)} (h:fF w r l) (b:w'.heap[r]?=w.heap[r]?):fF w' r l:=by
 obtain ⟨es,clock,h,x⟩:=h
 exact ⟨es,clock,b.trans h,x⟩
theorem fF.new (w:World):fF (w.alloc (.map #[] 0)) w.heap.size []:=⟨#[],0,fA _ _,rfl,by simp,by simp,by simp⟩
def mu (k:K) (l:List (K×Value)):Option Value:=(l.find? (fun x=>k==x.1)).map (·.2)
theorem jX (k:K):∀ (l:List (K×Value)) (i:Nat),(gr k l i).map (·.2)=mu k l
 | [],i=>rfl
 | x::l,i=>by
  unfold gr mu
  rw [dQ]
  cases h:(k==x.1) with
  | true=>rfl
  | false=>exact jX k l (i+1)
theorem oe (k:K):∀ (l:List (K×Value)) (i:Nat),(∀ x∈l,x.1≠k)→gr k l i=none
 | [],i,_=>rfl
 | x::l,i,h=>by
  unfold gr
  have:(k==x.1)=false:=by rw [aC];exact fun e=>h x cc e.symm
  rw [this]
  exact oe k l (i+1) fun y b=>h y (aR _ b)
section
variable {w:World} {r:Nat} {l:List (K×Value)} {mt e:TypeId} {z:Value}
theorem fF.lookup (h:fF w r l) (d:Tryz.prog.underlying mt=some (.map 94 e)) (m:(zeroValue e).run Tryz.prog w = .ok z w) (k:K) :
  (Instr.lookup mt (.map (some r)) (kV k) false).run Tryz.prog w = .ok ((mu k l).getD z) w:=by
 obtain ⟨es,clock,j,hl,_⟩:=h
 have b:=jO k w es.toList l hl
 rw [←jX k l 0]
 cases hk:gr k l 0 with
 | none =>
  rw [hk] at b
  simp [Instr.lookup,aL d,aJ j,gH,b,m,Result.andThen]
 | some x =>
  rw [hk] at b
  obtain ⟨i,v⟩:=x
  simp [Instr.lookup,aL d,aJ j,gH,b,Result.andThen]
theorem fF.jW (h:fF w r l) (d:Tryz.prog.underlying mt=some (.map 94 e)) (m:(zeroValue e).run Tryz.prog w = .ok z w) (k:K) :
  (Instr.lookup mt (.map (some r)) (kV k) true).run Tryz.prog w = .ok (.tuple #[(mu k l).getD z,.bool (mu k l).isSome]) w:=by
 obtain ⟨es,clock,j,hl,_⟩:=h
 have b:=jO k w es.toList l hl
 rw [←jX k l 0]
 cases hk:gr k l 0 with
 | none =>
  rw [hk] at b
  simp [Instr.lookup,aL d,aJ j,gH,b,m,Result.andThen]
 | some x =>
  rw [hk] at b
  obtain ⟨i,v⟩:=x
  simp [Instr.lookup,aL d,aJ j,gH,b,Result.andThen]
end
end Go.Proofs.YtkkfmkhbdoeglaaGreatDoor
namespace Go.Proofs.YtkkfmkhbdoeglaaGreatDoor
open Go.RowKit Go.WideElems Go.WideMaps Go.ChangeMaps
def lR (k:K) (v:Value) (l:List (K×Value)):List (K×Value) :=
 match gr k l 0 with
 | some (j,_)=>l.set j (k,v)
 | none=>l++[(k,v)]
def uO (k:K) (l:List (K×Value)):List (K×Value) :=
 match gr k l 0 with
 | some (j,_)=>l.eraseIdx j
 | none=>l
theorem jg (k:K):∀ (l:List (K×Value)) (i j:Nat) (v:Value),gr k l i=some (j,v)→i≤j∧l[j-i]?=some (k,v)
 | [],_,_,_,h=>by simp [gr] at h
 | x::l,i,j,v,h=>by
  unfold gr at h
  cases hk:(k==x.1) with
  | true =>
   rw [hk,aB rfl] at h
   cases h
   rw [bf] at hk
   subst hk
   simp
  | false =>
   rw [hk,au (by simp)] at h
   obtain ⟨h1,h2⟩:=jg k l (i+1) j v h
   refine ⟨by omega,?_⟩
   rw [show j-i=(j-(i+1))+1 by omega,aX]
   exact h2
theorem il (k:K):∀ (l:List (K×Value)) (i:Nat),gr k l i=none→∀ x∈l,x.1≠k
 | [],_,_,x,b=>by simp at b
 | y::l,i,h,x,b=>by
  unfold gr at h
  cases hk:(k==y.1) with
  | true=>rw [hk,aB rfl] at h;cases h
  | false =>
   rw [hk,au (by simp)] at h
   rcases aT.1 b with rfl | b
   ·rw [aC] at hk
    exact fun e=>hk e.symm
   ·exact il k l (i+1) h x b
theorem nW {l:List (K×Value)} {j:Nat} {k:K} {v u:Value} (h:l[j]?=some (k,u)):(l.set j (k,v)).map (·.1)=l.map (·.1):=by
 rw [cV]
 exact set_self _ _ _ (by rw [be,h];rfl)
theorem fN {w:World} {r:Nat} {es:Array MapEntry} {clock:Nat} {b:Obj} (h:w.heap[r]?=some (.map es clock)):w.grownBy (setBlock w r b) (some r) :=
 ⟨rfl,rfl,rfl,by simp [setBlock],fun k _ hk=>heap_setBlock_other h _ (fun e=>hk (by rw [e]))⟩
theorem fK {w:World} {r:Nat} {o b:Obj} (h:w.heap[r]?=some o):(setBlock w r b).heap[r]?=some b:=by
 have d:=fw h
 simp [setBlock,d]
section
variable {w:World} {r:Nat} {l:List (K×Value)} {mt e:TypeId} {z:Value}
theorem fF.entry (h:fF w r l) (S:Tryz.prog.underlying mt=some (.map 94 e)) (X:∀ u:World,(zeroValue e).run Tryz.prog u = .ok z u) (k:K) :
  ∃ m st,(∀ n,(Instr.mapEntry mt (.map (some r)) (kV k)).run Tryz.prog (w.drewN n) = .ok (.tuple #[(mu k l).getD z,goInt st]) (m.drewN n))∧fF m r (lR k ((mu k l).getD z) l)∧w.grownBy m (some r)∧m.heap.size=w.heap.size∧
   ∀ v,∃ D,(∀ n,(Instr.entryStore mt (.map (some r)) (goInt st) v).run Tryz.prog (m.drewN n) = .ok () (D.drewN n))∧fF D r (lR k v l)∧m.grownBy D (some r)∧D.heap.size=m.heap.size:=by
 obtain ⟨es,clock,B,hl,hc,E,hk⟩:=h
 have F:∀ n,(Instr.findKey 94 (kV k) es.toList).run Tryz.prog (w.drewN n) = .ok (gr k l 0) (w.drewN n):=fun n=>jO k (w.drewN n) es.toList l hl
 have q:∀ n,(w.drewN n).heap[r]?=some (.map es clock):=fun n=>B
 rw [←jX k l 0]
 unfold lR
 cases s:gr k l 0 with
 | none =>
  rw [s] at F
  have O:=il k l 0 s
  have G:(es.push ⟨kV k,z,clock⟩).toList.map (·.born)=es.toList.map (·.born)++[clock]:=by simp
  have C:((es.push ⟨kV k,z,clock⟩).toList.map (·.born)).Nodup:=by
   rw [G]
   refine b9.2 ⟨E,by simp,fun a ha c y U => ?_⟩
   simp only [aA] at y
   obtain ⟨x,d,rfl⟩:=az.1 ha
   have:=hc x d
   omega
  have M:∀ v:Value,((l++[(k,v)]).map (·.1)).Nodup:=fun v=>by
   rw [bA]
   refine b9.2 ⟨hk,by simp,fun a ha c y U => ?_⟩
   simp at y
   obtain ⟨x,d,rfl⟩:=az.1 ha
   exact O x d (U.trans y)
  have N:∀ v:Value,∀ x∈(es.push ⟨kV k,v,clock⟩).toList,x.born<clock+1:=by
   intro v x d
   simp at d
   rcases d with d | rfl
   ·have:=hc x (by simpa using d);omega
   ·simp
  have b:(setBlock w r (.map (es.push ⟨kV k,z,clock⟩) (clock+1))).heap[r]?=some (.map (es.push ⟨kV k,z,clock⟩) (clock+1)):=fK B
  refine ⟨setBlock w r (.map (es.push ⟨kV k,z,clock⟩) (clock+1)),clock,fun n => ?_,⟨_,_,b,by simp [hl],N z,C,M _⟩,fN B,by simp [setBlock],
   fun v=>⟨setBlock (setBlock w r (.map (es.push ⟨kV k,z,clock⟩) (clock+1))) r (.map (es.push ⟨kV k,v,clock⟩) (clock+1)),fun n => ?_,⟨_,_,fK b,by simp [hl],N v,by simpa using C,M _⟩,fN b,by simp [setBlock]⟩⟩
  ·simp [Instr.mapEntry,aL S,aJ (q n),gH,F,X,a8 _ (q n),Result.andThen]
   rfl
  ·have o:(es.push ⟨kV k,z,clock⟩).findIdx? (fun e=>((e.born:Nat):Int)==((clock:Nat):Int))=some es.size:=by
    rw [findIdx_arr]
    exact findIdx_born (l:=(es.push ⟨kV k,z,clock⟩).toList) (j:=es.size) (e0:=⟨kV k,z,clock⟩) C (by simp)
   have Q:(es.push ⟨kV k,z,clock⟩).modify es.size (fun e => {e with val:=v})=es.push ⟨kV k,v,clock⟩:=by
    apply Array.ext'
    rw [bC,fh,fh,←db,modify_last]
   have i:((setBlock w r (.map (es.push ⟨kV k,z,clock⟩) (clock+1))).drewN n).heap[r]?=some (.map (es.push ⟨kV k,z,clock⟩) (clock+1)):=b
   simp [Instr.entryStore,aJ i,asInt,asIntOf,goInt,o,Q,a8 _ i,Result.andThen]
   rfl
 | some x =>
  obtain ⟨j,u⟩:=x
  rw [s] at F
  obtain ⟨-,I⟩:=jg k l 0 j u s
  rw [cG] at I
  have V:∃ e0,es.toList[j]?=some e0∧e0.key=kV k∧e0.val=u:=by
   have h1:(es.toList.map (fun e=>(e.key,e.val)))[j]?=some (kV k,u):=by rw [hl,be,I];rfl
   rw [be] at h1
   obtain ⟨e0,h2,h3⟩:=ch.1 h1
   exact ⟨e0,h2,(Prod.mk.inj h3).1,(Prod.mk.inj h3).2⟩
  obtain ⟨e0,h2,h3,h4⟩:=V
  have W:es[j]?=some e0:=by simpa using h2
  have J:es.modify j (fun e => {e with key:=kV k})=es:=by
   apply Array.ext'
   rw [bC,cT _ _ _ _ h2]
   have:({e0 with key:=kV k} : MapEntry)=e0:=by rw [←h3]
   rw [this]
   exact set_self _ _ _ h2
  have R:l.set j (k,u)=l:=set_self _ _ _ I
  simp only [dR,bF,R]
  have b:(setBlock w r (.map es clock)).heap[r]?=some (.map es clock):=fK B
  refine ⟨setBlock w r (.map es clock),e0.born,fun n => ?_,⟨_,_,b,hl,hc,E,hk⟩,fN B,by simp [setBlock],
   fun v=>⟨setBlock (setBlock w r (.map es clock)) r (.map (es.modify j (fun e => {e with val:=v})) clock),fun n => ?_,⟨_,_,fK b,?_,?_,?_,?_⟩,fN b,by simp [setBlock]⟩⟩
  ·simp [Instr.mapEntry,aL S,aJ (q n),gH,F,W,h3,nV,J,a8 _ (q n),Result.andThen]
   rfl
  ·have o:es.findIdx? (fun e=>((e.born:Nat):Int)==((e0.born:Nat):Int))=some j:=by
    rw [findIdx_arr]
    exact findIdx_born E h2
   have i:((setBlock w r (.map es clock)).drewN n).heap[r]?=some (.map es clock):=b
   simp [Instr.entryStore,aJ i,asInt,asIntOf,goInt,o,a8 _ i,Result.andThen]
   rfl
  ·rw [bC,cT _ _ _ _ h2,cV,hl,cV,h3]
  ·intro x d
   rw [bC,cT _ _ _ _ h2] at d
   rcases cO d with d | rfl
   ·exact hc x d
   ·exact hc e0 (aU h2)
  ·rw [bC,cT _ _ _ _ h2,cV]
   rw [set_self _ _ _ (by rw [be,h2];rfl)]
   exact E
  ·rw [nW I]
   exact hk
end
end Go.Proofs.YtkkfmkhbdoeglaaGreatDoor
namespace Go.Proofs.YtkkfmkhbdoeglaaGreatDoor
open Go.RowKit Go.WideElems Go.ChangeMaps
section
variable {w:World} {r:Nat} {l:List (K×Value)} {mt e:TypeId} {z:Value}
theorem fF.update (h:fF w r l) (D:Tryz.prog.underlying mt=some (.map 94 e)) (k:K) (v:Value) :
  ∃ q,(∀ n,(Instr.mapUpdate mt (.map (some r)) (kV k) v).run Tryz.prog (w.drewN n) = .ok () (q.drewN n))∧fF q r (lR k v l)∧w.grownBy q (some r)∧q.heap.size=w.heap.size:=by
 obtain ⟨es,clock,o,hl,hc,E,hk⟩:=h
 have s:∀ n,(Instr.findKey 94 (kV k) es.toList).run Tryz.prog (w.drewN n) = .ok (gr k l 0) (w.drewN n):=fun n=>jO k (w.drewN n) es.toList l hl
 have d:∀ n,(w.drewN n).heap[r]?=some (.map es clock):=fun n=>o
 unfold lR
 cases i:gr k l 0 with
 | none =>
  rw [i] at s
  have B:=il k l 0 i
  have y:(es.push ⟨kV k,v,clock⟩).toList.map (·.born)=es.toList.map (·.born)++[clock]:=by simp
  have F:((es.push ⟨kV k,v,clock⟩).toList.map (·.born)).Nodup:=by
   rw [y]
   refine b9.2 ⟨E,by simp,fun a ha c m G => ?_⟩
   simp only [aA] at m
   obtain ⟨x,b,rfl⟩:=az.1 ha
   have:=hc x b
   omega
  have I:((l++[(k,v)]).map (·.1)).Nodup:=by
   rw [bA]
   refine b9.2 ⟨hk,by simp,fun a ha c m G => ?_⟩
   simp at m
   obtain ⟨x,b,rfl⟩:=az.1 ha
   exact B x b (G.trans m)
  have J:∀ x∈(es.push ⟨kV k,v,clock⟩).toList,x.born<clock+1:=by
   intro x b
   simp at b
   rcases b with b | rfl
   ·have:=hc x (by simpa using b);omega
   ·simp
  refine ⟨setBlock w r (.map (es.push ⟨kV k,v,clock⟩) (clock+1)),fun n => ?_,⟨_,_,fK o,by simp [hl],J,F,I⟩,fN o,by simp [setBlock]⟩
  simp [Instr.mapUpdate,aL D,aJ (d n),gH,s,a8 _ (d n),Result.andThen]
  rfl
 | some x =>
  obtain ⟨j,u⟩:=x
  rw [i] at s
  obtain ⟨-,C⟩:=jg k l 0 j u i
  rw [cG] at C
  have M:∃ e0,es.toList[j]?=some e0∧e0.key=kV k∧e0.val=u:=by
   have h1:(es.toList.map (fun e=>(e.key,e.val)))[j]?=some (kV k,u):=by rw [hl,be,C];rfl
   rw [be] at h1
   obtain ⟨e0,h2,h3⟩:=ch.1 h1
   exact ⟨e0,h2,(Prod.mk.inj h3).1,(Prod.mk.inj h3).2⟩
  obtain ⟨e0,h2,h3,h4⟩:=M
  have N:es[j]?=some e0:=by simpa using h2
  refine ⟨setBlock w r (.map (es.modify j (fun e => {e with key:=kV k,val:=v})) clock),fun n => ?_,⟨_,_,fK o,?_,?_,?_,?_⟩,fN o,by simp [setBlock]⟩
  ·simp [Instr.mapUpdate,aL D,aJ (d n),gH,s,N,h3,nV,a8 _ (d n),Result.andThen]
   rfl
  ·rw [bC,cT _ _ _ _ h2,cV,hl,cV]
  ·intro x b
   rw [bC,cT _ _ _ _ h2] at b
   rcases cO b with b | rfl
   ·exact hc x b
   ·exact hc e0 (aU h2)
  ·rw [bC,cT _ _ _ _ h2,cV]
   rw [set_self _ _ _ (by rw [be,h2];rfl)]
   exact E
  ·show ((l.set j (k,v)).map (·.1)).Nodup
   rw [nW C]
   exact hk
theorem gT {α β:Type} (f : α→β):∀ (l:List α) (j:Nat),(l.eraseIdx j).map f=(l.map f).eraseIdx j
 | [],_=>by simp
 | x::l,0=>rfl
 | x::l,j+1=>by simp [gT f l j]
theorem fF.delete (h:fF w r l) (s:Tryz.prog.underlying mt=some (.map 94 e)) (k:K) (t2 ty:TypeId) :
  ∃ m,(∀ n,(Builtin.delete_ #[mt,t2] ty #[.map (some r),kV k]).run Tryz.prog (w.drewN n) = .ok (.tuple #[]) (m.drewN n))∧fF m r (uO k l)∧w.grownBy m (some r)∧m.heap.size=w.heap.size:=by
 obtain ⟨es,clock,i,hl,hc,y,hk⟩:=h
 have o:∀ n,(Instr.findKey 94 (kV k) es.toList).run Tryz.prog (w.drewN n) = .ok (gr k l 0) (w.drewN n):=fun n=>jO k (w.drewN n) es.toList l hl
 have d:∀ n,(w.drewN n).heap[r]?=some (.map es clock):=fun n=>i
 unfold uO
 cases q:gr k l 0 with
 | none =>
  rw [q] at o
  refine ⟨setBlock w r (.map es clock),fun n => ?_,⟨_,_,fK i,hl,hc,y,hk⟩,fN i,by simp [setBlock]⟩
  simp [Builtin.delete_,aL s,aJ (d n),gH,o,a8 _ (d n),Result.andThen]
  rfl
 | some x =>
  obtain ⟨j,u⟩:=x
  rw [q] at o
  have b:(es.eraseIdxIfInBounds j).toList=es.toList.eraseIdx j:=by
   unfold Array.eraseIdxIfInBounds
   split
   ·simp
   ·rw [List.eraseIdx_of_length_le (by rw [db];omega)]
  refine ⟨setBlock w r (.map (es.eraseIdxIfInBounds j) clock),fun n => ?_,⟨_,_,fK i,?_,?_,?_,?_⟩,fN i,by simp [setBlock]⟩
  ·simp [Builtin.delete_,aL s,aJ (d n),gH,o,a8 _ (d n),Result.andThen]
   rfl
  ·rw [b,gT,hl,gT]
  ·intro x B
   rw [b] at B
   exact hc x ((dG _ _).subset B)
  ·rw [b,gT]
   exact y.sublist (dG _ _)
  ·show ((l.eraseIdx j).map (·.1)).Nodup
   rw [gT]
   exact hk.sublist (dG _ _)
end
end Go.Proofs.YtkkfmkhbdoeglaaGreatDoor
namespace Go.Proofs.YtkkfmkhbdoeglaaGreatDoor
open Go.RowKit
structure OpB where
 kind:Int
 table:Int
 key:List UInt8
 val:List UInt8
deriving DecidableEq
def xg (o:OpB):Value := .agg #[.int .i64 o.kind,.int .i64 o.table,.string ⟨o.key.toArray⟩,.string ⟨o.val.toArray⟩]
def gw (w:World) (r:Nat) (b:List K):Prop:=fF w r (b.map fun k=>(k,.int .i64 1))
theorem mj {w w1 w2:World} {c:Option Nat} (h:w.grownBy w1 c) (k:w1.grownBy w2 c):w.grownBy w2 c :=
 ⟨k.os.trans h.os,k.tape.trans h.tape,k.output.trans h.output,aH h.size k.size,fun i d b=>(k.block i (ay d h.size) b).trans (h.block i d b)⟩
theorem xh {w w1 w2:World} {c:Option Nat} {r:Nat} (h:w.grownBy w1 c) (k:w1.grownBy w2 (some r)) (j:w.heap.size≤r):w.grownBy w2 c :=
 ⟨k.os.trans h.os,k.tape.trans h.tape,k.output.trans h.output,aH h.size k.size,fun i b d=>(k.block i (ay b h.size) (fun e=>by cases e;omega)).trans (h.block i b d)⟩
theorem CurAt.pL {w:World} {base c:Nat} {cu:Cu} (h:CurAt w base c cu) (b:cu.f≠none):∃ g,w.cell? ⟨c,3,none⟩=some (.pointer (some ⟨g,0,none⟩)):=by
 obtain ⟨h1,h2,h3,h4,v,fp,h5,h6,h7,h8⟩:=h
 obtain ⟨x,d⟩:=eH.1 b
 rw [d] at h8
 obtain ⟨g,rfl,-,-⟩:=h8
 exact ⟨g,ae w c 3 _ _ _ h5⟩
theorem CurAt.jA {w:World} {base c:Nat} {cu:Cu} (h:CurAt w base c cu) (b:cu.f=none):w.cell? ⟨c,3,none⟩=some (.pointer none):=by
 obtain ⟨h1,h2,h3,h4,v,fp,h5,h6,h7,h8⟩:=h
 rw [b] at h8
 obtain rfl:fp=none:=h8
 exact ae w c 3 _ _ _ h5
theorem Gm (base c r:Nat) (cu:Cu) (x y:UInt8) (d j:Bool) (w:World) (h:CurAt w base c cu) (hb:base≤w.heap.size) (X:(cu.take 2).2=[x,y])
  (hk:(x.toNat<1∧d=false)∨(1≤x.toNat∧x.toNat<2∧d=true)∨(2≤x.toNat∧x.toNat<3∧d=true)∨(3≤x.toNat∧d=false)) (E:(y.toNat<3∧j=true)∨(3≤y.toNat∧j=false))
  (N:(((cu.take 2).1.ja d 6).ja j 6).f≠none) :
  Calls Tryz.prog 144 #[.pointer (some ⟨c,0,none⟩),.map (some r)] w fun e w'=>e = .returned (xg ⟨x.toNat,y.toNat,[],[]⟩)∧CurAt w' base c (((cu.take 2).1.ja d 6).ja j 6)∧w.grownBy w' (some c):=by
 have hx:=x.toNat_lt
 have hy:=y.toNat_lt
 have Y:=ab (fA w (.cells #[.int .i64 0,.int .i64 0,.string ⟨#[]⟩,.string ⟨#[]⟩] 96))
 have O:=h.lt
 have Z:=ab N
 clear N
 have hd:decide ((y.toNat:Int)<3)=j:=by
  rcases E with ⟨h,rfl⟩ | ⟨h,rfl⟩
  ·exact cQ (by omega)
  ·exact cA (by omega)
 have HD:=ab hd
 have Q:((x.toNat:Int)==1 || (x.toNat:Int)==2)=d:=by
  rcases hk with ⟨h,rfl⟩ | ⟨h,h',rfl⟩ | ⟨h,h',rfl⟩ | ⟨h,rfl⟩
  ·rw [eI,aC,aC];omega
  ·rw [dE,bf,bf];omega
  ·rw [dE,bf,bf];omega
  ·rw [eI,aC,aC];omega
 have R:=ab Q
 clear hd E Q
 have S:w.heap.size<(w.alloc (.cells #[.int .i64 0,.int .i64 0,.string ⟨#[]⟩,.string ⟨#[]⟩] 96)).heap.size:=by simp
 go_enter Tryz.func144,Tryz.ntmps144
 go_wp2_with fail
 refine (js base c cu 2 _ (h.fP ((Below.refl _ w).alloc (af _) _)) (by simp;omega) (by decide) (by decide)).mono ?_
 rintro e w1 ⟨v,rfl,I,-,F,q⟩
 rw [X] at I
 obtain ⟨a,cap,rfl,J,s⟩:=I.opened
 obtain ⟨b,off,rfl,G⟩:=s 0 (by simp)
 obtain ⟨b',ak,he,U⟩:=s 1 (by simp)
 cases he
 simp only [cx,cg,dS] at G U
 have al:=fE G
 clear s I
 simp only [ar,aM] at J
 have u:=q.size
 have H1:=ab ((q.block w.heap.size S (fun e=>by cases e;omega)).trans Y.out)
 have am:=F.lt
 go_wp2
 go_region
 have ht:((((x.toNat:Int)==1)=false∧((x.toNat:Int)==2)=false∧d=false)∨(((x.toNat:Int)==1)=true∧d=true)∨(((x.toNat:Int)==1)=false∧((x.toNat:Int)==2)=true∧d=true)):=by
  rw [←R.out]
  cases h1:((x.toNat:Int)==1) <;> cases h2:((x.toNat:Int)==2) <;> simp
 clear hk
 rcases ht with ⟨t1,t2,rfl⟩ | ⟨t1,rfl⟩ | ⟨t1,t2,rfl⟩
 all_goals
  have H2:=ab (fA w1 (.cells #[.int .i64 x.toNat,.int .i64 y.toNat,.string ⟨#[]⟩,.string ⟨#[]⟩] 96))
  go_wp2_with fail
  try rw [R.out]
  refine (ig base c _ _ 6 _ (F.fP (((Below.refl _ w1).alloc (af _) _).drew)) (by simp at u⊢;omega)).mono ?_
  rintro e w2 ⟨rfl,M,m⟩
  have B:=ab ((m.block w1.heap.size (by simp) (fun e=>by cases e;omega)).trans H2.out)
  have V:=ab ((m.block w.heap.size (by simp at u⊢;omega) (fun e=>by cases e;omega)).trans (fG w1 _ H1.out))
  have d0:w2.cell? ⟨w1.heap.size,0,none⟩=some (.int .i64 x.toNat):=ae _ _ 0 _ _ _ B.out
  have d1:w2.cell? ⟨w1.heap.size,1,none⟩=some (.int .i64 y.toNat):=ae _ _ 1 _ _ _ B.out
  have aE:=fw B.out
  have W:=m.size
  go_wp2_with fail
  try rw [HD.out]
  refine (ig base c _ _ 6 _ M (by simp at u W⊢;omega)).mono ?_
  rintro e w3 ⟨rfl,l,C⟩
  have D:=ab ((C.block w1.heap.size (fw B.out) (fun e=>by cases e;omega)).trans B.out)
  have i:=ab ((C.block w.heap.size (fw V.out) (fun e=>by cases e;omega)).trans V.out)
  have q0:w3.cell? ⟨w1.heap.size,0,none⟩=some (.int .i64 x.toNat):=ae _ _ 0 _ _ _ D.out
  have q1:w3.cell? ⟨w1.heap.size,1,none⟩=some (.int .i64 y.toNat):=ae _ _ 1 _ _ _ D.out
  have q2:w3.cell? ⟨w1.heap.size,2,none⟩=some (.string ⟨#[]⟩):=ae _ _ 2 _ _ _ D.out
  have q3:w3.cell? ⟨w1.heap.size,3,none⟩=some (.string ⟨#[]⟩):=ae _ _ 3 _ _ _ D.out
  have p0:w3.cell? ⟨w.heap.size,0,none⟩=some (.int .i64 0):=ae _ _ 0 _ _ _ i.out
  have p1:w3.cell? ⟨w.heap.size,1,none⟩=some (.int .i64 0):=ae _ _ 1 _ _ _ i.out
  have p2:w3.cell? ⟨w.heap.size,2,none⟩=some (.string ⟨#[]⟩):=ae _ _ 2 _ _ _ i.out
  have p3:w3.cell? ⟨w.heap.size,3,none⟩=some (.string ⟨#[]⟩):=ae _ _ 3 _ _ _ i.out
  have e0:=aj _ _ 0 _ _ i.out
  have e1:=aj _ _ 1 _ _ i.out
  have e2:=aj _ _ 2 _ _ i.out
  have e3:=aj _ _ 3 _ _ i.out
  have a4:=fw D.out
  have a5:=fw i.out
  obtain ⟨g,a7⟩:=l.pL Z.out
  have a6:=l.lt
  go_wp2
  refine aI (v:=xg ⟨x.toNat,y.toNat,[],[]⟩) (by simp [results,Tryz.results144,go_sem,xg,p0,p1,p2,p3]) rfl ⟨rfl,?_,?_⟩
  ·exact l.grown (r:=w.heap.size) (fY (fY (fY (grownBy_set (Below.refl _ w3) 0 _) 1 _) 2 _) 3 _) O (fun k n=>by rw [i.out];simp)
  ·have g1:=mj (jQ ((Below.refl _ w).alloc (af _) _) (some c)) q
   have g2:=fun o=>mj g1 (jQ (((Below.refl _ w1).alloc (af _) o).drew) (some c))
   exact xh (mj (mj (g2 _) m) C) (fY (fY (fY (grownBy_set (Below.refl _ w3) 0 _) 1 _) 2 _) 3 _) (af _)
end Go.Proofs.YtkkfmkhbdoeglaaGreatDoor
namespace Go.Proofs.YtkkfmkhbdoeglaaGreatDoor
open Go.RowKit
theorem y9 (w:World) (l:List UInt8) (hl:l.length≤fX) :
  ∃ cap,(convert 9 59 (.string ⟨l.toArray⟩)).run Tryz.prog w = .ok (.slice (some ⟨w.heap.size,0,none⟩) l.length cap)
   (w.drew.alloc (.cells (bytesRow ⟨l.toArray⟩ cap) 5 ((bytesRow ⟨l.toArray⟩ cap).size,(bytesRow ⟨l.toArray⟩ cap).size+1)))∧
   OwnS (w.drew.alloc (.cells (bytesRow ⟨l.toArray⟩ cap) 5 ((bytesRow ⟨l.toArray⟩ cap).size,(bytesRow ⟨l.toArray⟩ cap).size+1))) w.heap.size 1 (.slice (some ⟨w.heap.size,0,none⟩) l.length cap) l.length (u8s l):=by
 have hs:(⟨l.toArray⟩:ByteArray).size=l.length:=by simp [ByteArray.size]
 have h:=run_bytes_of_string (P:=Tryz.prog) w 9 59 5 ⟨l.toArray⟩ Tryz.underlying9 Tryz.underlying59 Tryz.underlying5
 rw [hs] at h
 refine ⟨_,h,?_⟩
 have b:=grownCap_ge w l.length 0 5
 have hmx:maxLen=9223372036854775807:=rfl
 have d:=grownCap_le_maxLen w l.length 0 5 (by unfold fX at hl;omega)
 have i:(bytesRow ⟨l.toArray⟩ (grownCap w l.length 0 5)).size=grownCap w l.length 0 5:=by
  simp [bytesRow]
  omega
 have:=OwnS.new w.drew (bytesRow ⟨l.toArray⟩ (grownCap w l.length 0 5)) 5 (bytesRow ⟨l.toArray⟩ (grownCap w l.length 0 5)).size ((bytesRow ⟨l.toArray⟩ (grownCap w l.length 0 5)).size+1) w.heap.size 1 l.length (grownCap w l.length 0 5) (af _) b d (by omega) (.inr (by omega))
 have e:(bytesRow ⟨l.toArray⟩ (grownCap w l.length 0 5)).toList.take (l.length*1)=u8s l:=by
  simp [bytesRow,u8s]
 rw [e] at this
 exact this
theorem zI {o:Oper} {a:Act} {K:Act→World→Prop} {Q:Exit→Act→World→Prop} {w:World} (x:Operand) (d:o.op = .convert 9 59 x) (l:List UInt8) (i:a.eval x = .string ⟨l.toArray⟩) (hl:l.length≤fX)
  (h:∀ cap w',OwnS w' w.heap.size 1 (.slice (some ⟨w.heap.size,0,none⟩) l.length cap) l.length (u8s l)→Below w.heap.size w w'→w.heap.size<w'.heap.size→K (a.put o.dst (.slice (some ⟨w.heap.size,0,none⟩) l.length cap)) w'):o.wp Tryz.prog a w K Q:=by
 obtain ⟨cap,j,b⟩:=y9 w l hl
 have m:Below w.heap.size w (w.drew.alloc (.cells (bytesRow ⟨l.toArray⟩ cap) 5 ((bytesRow ⟨l.toArray⟩ cap).size,(bytesRow ⟨l.toArray⟩ cap).size+1))):=((Below.refl _ w).drew).alloc (af _) _
 unfold Oper.wp execOp
 simp only [d,i,ck,j,bZ]
 exact h cap _ b m (by simp)
theorem kq {ops:Array Oper} {rest:List Oper} {o:Oper} {a:Act} {Q:Exit→Act→World→Prop} {w:World} (b:o.guard=none) (x:Operand) (d:o.op = .convert 9 59 x) (l:List UInt8) (i:a.eval x = .string ⟨l.toArray⟩) (hl:l.length≤fX)
  (h:∀ cap w',OwnS w' w.heap.size 1 (.slice (some ⟨w.heap.size,0,none⟩) l.length cap) l.length (u8s l)→Below w.heap.size w w'→w.heap.size<w'.heap.size→wpList Tryz.prog ops Q rest (a.put o.dst (.slice (some ⟨w.heap.size,0,none⟩) l.length cap)) w'):wpList Tryz.prog ops Q (o::rest) a w :=
 ff b fun _ hK=>zI x d l i hl fun cap w' h1 h2 h3=>hK _ _ (h cap w' h1 h2 h3)
theorem xJ {o:Oper} {a:Act} {K:Act→World→Prop} {Q:Exit→Act→World→Prop} {w:World} (x:Operand) (b:o.op = .convert 59 9 x) (l:List UInt8) (d:BytesAt w (a.eval x) l)
  (h:K (a.put o.dst (.string ⟨l.toArray⟩)) w):o.wp Tryz.prog a w K Q:=by
 unfold Oper.wp execOp
 simp only [b,ck,d.convert,bZ]
 exact h
theorem gx {ops:Array Oper} {rest:List Oper} {o:Oper} {a:Act} {Q:Exit→Act→World→Prop} {w:World} (b:o.guard=none) (x:Operand) (d:o.op = .convert 59 9 x) (l:List UInt8) (i:BytesAt w (a.eval x) l)
  (h:wpList Tryz.prog ops Q rest (a.put o.dst (.string ⟨l.toArray⟩)) w):wpList Tryz.prog ops Q (o::rest) a w :=
 ff b fun _ hK=>xJ x d l i (hK _ _ h)
def byteOf (n:Int):UInt8:=UInt8.ofNat (n%256).toNat
theorem xD (n:Int):((byteOf n).toNat:Int)=n%256:=by
 unfold byteOf
 simp
 omega
theorem qc (kind:Int) (l:List UInt8) (w:World) (hl:l.length≤fX) :
  Calls Tryz.prog 27 #[.int .i64 kind,.string ⟨l.toArray⟩] w fun e w'=>e = .returned (.string ⟨(sealB (byteOf kind) l).toArray⟩)∧Below w.heap.size w w':=by
 have m:=ab (xD kind)
 go_enter Tryz.func27,Tryz.ntmps27
 go_wp2_with (first
  | (refine kq rfl (.tmp 7) rfl l rfl hl ?_;intro cap w1 b i o)
  | (go_at_call 58;rw [←m.out];refine (yo (byteOf kind) _ l _ b.bytes hl).mono ?_;rintro e w2 ⟨v2,rfl,d,j⟩)
  | (refine gx rfl (.tmp 9) rfl _ d.bytes ?_))
 go_ret
 exact ⟨rfl,i.trans (j.mono (by omega))⟩
end Go.Proofs.YtkkfmkhbdoeglaaGreatDoor
namespace Go.Proofs.YtkkfmkhbdoeglaaGreatDoor
open Go.RowKit
end Go.Proofs.YtkkfmkhbdoeglaaGreatDoor
namespace Go.Proofs.YtkkfmkhbdoeglaaGreatDoor
open Go.RowKit
theorem carry {w w':World} {c b:Nat} {o:Obj} (i:w.grownBy w' (some c)) (h:w.heap[b]?=some o) (d:b≠c):w'.heap[b]?=some o :=
 (i.block b (fw h) (fun e=>d (by cases e;rfl))).trans h
theorem BytesAt.name {w:World} {v:Value} {l:List UInt8} (h:BytesAt w v l):∃ m,m=l∧BytesAt w v m:=⟨l,rfl,h⟩
theorem Cu.mq (cu:Cu) (k:Nat):cu.ja true k=cu:=by
 unfold Cu.ja
 cases cu.f <;> rfl
theorem ShapesVar.grown {w w':World} {c:Nat} (h:ShapesVar w) (b:w.grownBy w' (some c)) (hc:2≤c):ShapesVar w' :=
 h.fP b.size (b.block _ (fE h.c0) (fun e=>by cases e;omega))
theorem fF.jA {w:World} {r:Nat} {l:List (K×Value)} (h:fF w r l):∀ k n:Int,w.heap[r]?≠some (.cells #[.int .i64 k,.int .i64 n,.nilIface] 166 (0,0)):=fun k n e=>by
 obtain ⟨es,clock,h,_⟩:=h
 rw [h] at e
 cases e
theorem CurAt.eq {w:World} {base c:Nat} {cu cu':Cu} (h:CurAt w base c cu) (e:cu=cu'):CurAt w base c cu':=e▸h
theorem kU (k:K) (v:Value) (l:List (K×Value)):mu k (lR k v l)=some v:=by
 have go:∀ (l:List (K×Value)) (i:Nat),mu k (match gr k l i with | some (j,_)=>l.set (j-i) (k,v) | none=>l++[(k,v)])=some v:=by
  intro l
  induction l with
  | nil=>intro i;simp [gr,mu]
  | cons x l ih =>
   intro i
   unfold gr
   cases hk:(k==x.1) with
   | true=>simp [mu]
   | false =>
    rw [au (by simp)]
    have h:=ih (i+1)
    cases b:gr k l (i+1) with
    | none =>
     rw [b] at h
     unfold mu at h⊢
     rw [aV,dQ,hk]
     exact h
    | some y =>
     obtain ⟨j,u⟩:=y
     rw [b] at h
     have d:=(jg k l (i+1) j u b).1
     unfold mu at h⊢
     simp only at h⊢
     rw [show j-i=(j-(i+1))+1 by omega,ao,dQ,hk]
     exact h
 have h:=go l 0
 unfold lR
 cases b:gr k l 0 with
 | none=>rw [b] at h;exact h
 | some y =>
  obtain ⟨j,u⟩:=y
  rw [b] at h
  exact h
theorem qO (k:K) (b:List K):(mu k (b.map fun k=>(k,(Value.int .i64 1)))).getD (.int .i64 0) = .int .i64 (if b.contains k then 1 else 0):=by
 unfold mu
 induction b with
 | nil=>rfl
 | cons x b ih =>
  rw [bg,dQ,List.contains_cons]
  cases hk:(k==x) with
  | true=>rfl
  | false=>simpa using ih
def Cu.kW (C:Cu) (i T:Int) (l:List K) (b j:Nat):Cu×OpB :=
 let d:=((C.take b).1.ja (gR T (C.take b).2) 7).ja (!(l.contains (T,(C.take b).2))) 8
 if i=1 then ((d.take j).1.ja (gi T (d.take j).2) 9,⟨i,T,(C.take b).2,(d.take j).2⟩)
 else (d,⟨i,T,(C.take b).2,[]⟩)
theorem Cu.qy {cu:Cu} {ok:Bool} {k:Nat} (h:(cu.ja ok k).f=none):cu.f=none∧ok=true:=by
 unfold Cu.ja at h
 cases hc:cu.f with
 | some x=>rw [hc] at h;rw [hc] at h;cases h
 | none =>
  rw [hc] at h
  cases ok with
  | true=>exact ⟨rfl,rfl⟩
  | false=>cases h
theorem Cu.ED {cu:Cu} {n:Nat} (h:(cu.take n).1.f=none):cu.f=none:=by
 unfold Cu.take at h
 cases hc:cu.f with
 | some x=>rw [hc] at h;rw [hc] at h;cases h
 | none=>rfl
theorem sr {C:Cu} {i T:Int} {b:List K} {d j:Nat} (h:(C.kW i T b d j).1.f=none):b.contains (T,(C.take d).2)=false:=by
 unfold Cu.kW at h
 simp only at h
 split at h
 ·simpa using (Cu.qy (Cu.ED (Cu.qy h).1)).2
 ·simpa using (Cu.qy h).2
theorem pF (k:K) (b:List K) (h:b.contains k=false):lR k (.int .i64 1) (b.map fun k=>(k,(Value.int .i64 1)))=(b++[k]).map fun k=>(k,(Value.int .i64 1)):=by
 have d:gr k (b.map fun k=>(k,(Value.int .i64 1))) 0=none:=oe k _ 0 fun x i=>by
  obtain ⟨y,j,rfl⟩:=az.1 i
  intro e
  have:b.contains k=true:=by rw [List.contains_iff_mem];exact e▸j
  rw [h] at this
  cases this
 unfold lR
 rw [d]
 simp
theorem Ext.grow {S:Nat→Prop} {a w w':World} {i:Nat} (h:Ext S a w) (g:w.grownBy w' (some i)) (b:S i∨a.heap.size≤i):Ext S a w' :=
 ⟨g.os.trans h.os,g.tape.trans h.tape,g.output.trans h.output,aH h.size g.size,fun k hk hs=>(g.block k (ay hk h.size) (fun e=>by cases e;rcases b with b | b;exact hs b;omega)).trans (h.block k hk hs)⟩
theorem Ext.sK {S:Nat→Prop} {a w w':World} (h:Ext S a w) (g:Below w.heap.size w w'):Ext S a w' :=
 ⟨g.os.trans h.os,g.tape.trans h.tape,g.output.trans h.output,aH h.size g.size,fun k hk hs=>(g.block k (ay hk h.size)).trans (h.block k hk hs)⟩
end Go.Proofs.YtkkfmkhbdoeglaaGreatDoor
