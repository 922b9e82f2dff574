/- A part of what is proved here: lemmas and contracts of single functions. No condition but those that each names. -/
import Derived.Test.YtkkfmkhbdoeglaaGreatDoorG00
import Derived.LoopTactic
import Derived.Maps.OwnSet
import Derived.WideKeyEntry
import Derived.Test.YtkkfmkhbdoeglaaGreatDoorG02
import Derived.Test.YtkkfmkhbdoeglaaGreatDoorG05
import Derived.Test.YtkkfmkhbdoeglaaGreatDoorG13
import Derived.Test.YtkkfmkhbdoeglaaGreatDoorG14
import Derived.Test.YtkkfmkhbdoeglaaGreatDoorG16
namespace Go.Proofs.YtkkfmkhbdoeglaaGreatDoor.U
open Go.RowKit
abbrev K:=Nat
def kV (x:K):Value := .int .u64 (x:Int)
theorem gT (em:Bool) (x:K) (w:World):(Instr.checkKey em 10000 26 (kV x)).run Tryz.prog w = .ok () w:=by
 have h:∀ n,(Instr.checkKey em (n+1) 26 (kV x)).run Tryz.prog w = .ok () w:=by
  intro n
  simp [Instr.checkKey,kV,aN Tryz.underlying26,Result.andThen]
 exact h 9999
theorem sP (x y:K) (w:World):(Op.equal 26 (kV x) (kV y)).run Tryz.prog w = .ok (x==y) w:=by
 have b:((x:Int)==(y:Int))=(x==y):=by
  rw [dI,bj,bj]
  exact Int.ofNat_inj
 have hd:∀ n,(Op.equalIn (n+1) 26 (kV x) (kV y)).run Tryz.prog w = .ok (x==y) w:=by
  intro n
  rw [←b]
  simp [Op.equalIn,kV,aN Tryz.underlying26]
 exact hd 9999
def gJ (k:K):List (K×Value)→Nat→Option (Nat×Value)
 | [],_=>none
 | e::es,i=>if k==e.1 then some (i,e.2) else gJ k es (i+1)
theorem FW (x y:K):Instr.sameNow (.int .u64) (kV x) (kV y)=some (x==y):=by
 have b:((x:Int)==(y:Int))=(x==y):=by
  rw [dI,bj,bj]
  exact Int.ofNat_inj
 show some ((x:Int)==(y:Int))=_
 rw [b]
theorem kv (k:K) (w:World):∀ (es:List MapEntry) (l:List (K×Value)) (_:es.map (fun e=>(e.key,e.val))=l.map (fun x=>(kV x.1,x.2))),(Instr.findKey 26 (kV k) es).run Tryz.prog w = .ok (gJ k l 0) w:=by
 have go:∀ (es:List MapEntry) (l:List (K×Value)) (i:Nat) (_:es.map (fun e=>(e.key,e.val))=l.map (fun x=>(kV x.1,x.2))),Instr.findNow (.int .u64) (kV k) es i=some (gJ k l i):=by
  intro es
  induction es with
  | nil =>
   intro l i h
   cases l with
   | nil=>rfl
   | cons x l=>cases h
  | cons e es ih =>
   intro l i h
   cases l with
   | nil=>cases h
   | cons x l =>
    rw [bq,bq] at h
    have h1:=(List.cons.inj h).1
    have h2:=(List.cons.inj h).2
    have b:e.key=kV x.1:=(Prod.mk.inj h1).1
    have d:e.val=x.2:=(Prod.mk.inj h1).2
    unfold Instr.findNow gJ
    rw [b,FW]
    cases hk:(k==x.1) with
    | false=>exact ih l (i+1) h2
    | true =>
     rw [d]
     rfl
 intro es l h
 exact MapKept.run_findKey Tryz.underlying26 (go es l 0 h)
theorem oK (x:K) (w:World):(Instr.keyThatStays (kV x) (kV x)).run Tryz.prog w = .ok (kV x) w:=by
 have h:∀ n,Instr.sameBits (n+2) (kV x) (kV x)=true:=by
  intro n
  simp [Instr.sameBits,kV]
 have b:Instr.sameBits 10000 (kV x) (kV x)=true:=h 9998
 simp only [Instr.keyThatStays,b,dL]
 rfl
def fS (w:World) (r:Nat) (l:List (K×Value)):Prop :=
 ∃ es clock,w.heap[r]?=some (.map es clock)∧es.toList.map (fun e=>(e.key,e.val))=l.map (fun x=>(kV x.1,x.2))∧(∀ e∈es.toList,e.born<clock)∧(es.toList.map (·.born)).Nodup∧(l.map (·.1)).Nodup
theorem fS.lt {w:World} {r:Nat} {l:List (K×Value)} (h:fS w r l):r<w.heap.size:=by
 obtain ⟨es,clock,h,_⟩:=h
 exact fI h
theorem fS.fW {w w':World} {r:Nat} {l:List (K×Value)} (h:fS w r l) (b:w'.heap[r]?=w.heap[r]?):fS w' r l:=by
 obtain ⟨es,clock,h,x⟩:=h
 exact ⟨es,clock,b.trans h,x⟩
theorem fS.new (w:World):fS (w.alloc (.map #[] 0)) w.heap.size []:=⟨#[],0,fL _ _,rfl,by simp,by simp,by simp⟩
def nk (k:K) (l:List (K×Value)):Option Value:=(l.find? (fun x=>k==x.1)).map (·.2)
theorem kK (k:K):∀ (l:List (K×Value)) (i:Nat),(gJ k l i).map (·.2)=nk k l
 | [],i=>rfl
 | x::l,i=>by
  unfold gJ nk
  rw [dW]
  cases h:(k==x.1) with
  | true=>rfl
  | false=>exact kK k l (i+1)
theorem o9 (k:K):∀ (l:List (K×Value)) (i:Nat),(∀ x∈l,x.1≠k)→gJ k l i=none
 | [],i,_=>rfl
 | x::l,i,h=>by
  unfold gJ
  have:(k==x.1)=false:=by rw [aD];exact fun e=>h x ck e.symm
  rw [this]
  exact o9 k l (i+1) fun y b=>h y (aT _ b)
section
variable {w:World} {r:Nat} {l:List (K×Value)} {mt e:TypeId} {z:Value}
theorem fS.lookup (h:fS w r l) (d:Tryz.prog.underlying mt=some (.map 26 e)) (m:(zeroValue e).run Tryz.prog w = .ok z w) (k:K) :
  (Instr.lookup mt (.map (some r)) (kV k) false).run Tryz.prog w = .ok ((nk k l).getD z) w:=by
 obtain ⟨es,clock,j,hl,_⟩:=h
 have b:=kv k w es.toList l hl
 rw [←kK k l 0]
 cases hk:gJ k l 0 with
 | none =>
  rw [hk] at b
  simp [Instr.lookup,aN d,aM j,gT,b,m,Result.andThen]
 | some x =>
  rw [hk] at b
  obtain ⟨i,v⟩:=x
  simp [Instr.lookup,aN d,aM j,gT,b,Result.andThen]
theorem fS.kM (h:fS w r l) (d:Tryz.prog.underlying mt=some (.map 26 e)) (m:(zeroValue e).run Tryz.prog w = .ok z w) (k:K) :
  (Instr.lookup mt (.map (some r)) (kV k) true).run Tryz.prog w = .ok (.tuple #[(nk k l).getD z,.bool (nk k l).isSome]) w:=by
 obtain ⟨es,clock,j,hl,_⟩:=h
 have b:=kv k w es.toList l hl
 rw [←kK k l 0]
 cases hk:gJ k l 0 with
 | none =>
  rw [hk] at b
  simp [Instr.lookup,aN d,aM j,gT,b,m,Result.andThen]
 | some x =>
  rw [hk] at b
  obtain ⟨i,v⟩:=x
  simp [Instr.lookup,aN d,aM j,gT,b,Result.andThen]
end
end Go.Proofs.YtkkfmkhbdoeglaaGreatDoor.U
namespace Go.Proofs.YtkkfmkhbdoeglaaGreatDoor.U
open Go.RowKit Go.WideElems Go.WideMaps Go.ChangeMaps
def mD (k:K) (v:Value) (l:List (K×Value)):List (K×Value) :=
 match gJ k l 0 with
 | some (j,_)=>l.set j (k,v)
 | none=>l++[(k,v)]
def vA (k:K) (l:List (K×Value)):List (K×Value) :=
 match gJ k l 0 with
 | some (j,_)=>l.eraseIdx j
 | none=>l
theorem jw (k:K):∀ (l:List (K×Value)) (i j:Nat) (v:Value),gJ k l i=some (j,v)→i≤j∧l[j-i]?=some (k,v)
 | [],_,_,_,h=>by simp [gJ] at h
 | x::l,i,j,v,h=>by
  unfold gJ at h
  cases hk:(k==x.1) with
  | true =>
   rw [hk,aF rfl] at h
   cases h
   rw [bj] at hk
   subst hk
   simp
  | false =>
   rw [hk,aw (by simp)] at h
   obtain ⟨h1,h2⟩:=jw k l (i+1) j v h
   refine ⟨by omega,?_⟩
   rw [show j-i=(j-(i+1))+1 by omega,aY]
   exact h2
theorem iI (k:K):∀ (l:List (K×Value)) (i:Nat),gJ k l i=none→∀ x∈l,x.1≠k
 | [],_,_,x,b=>by simp at b
 | y::l,i,h,x,b=>by
  unfold gJ at h
  cases hk:(k==y.1) with
  | true=>rw [hk,aF rfl] at h;cases h
  | false =>
   rw [hk,aw (by simp)] at h
   rcases aV.1 b with rfl | b
   ·rw [aD] at hk
    exact fun e=>hk e.symm
   ·exact iI k l (i+1) h x b
theorem oJ {l:List (K×Value)} {j:Nat} {k:K} {v u:Value} (h:l[j]?=some (k,u)):(l.set j (k,v)).map (·.1)=l.map (·.1):=by
 rw [cZ]
 exact set_self _ _ _ (by rw [bh,h];rfl)
theorem gi {w:World} {r:Nat} {es:Array MapEntry} {clock:Nat} {b:Obj} (h:w.heap[r]?=some (.map es clock)):w.grownBy (setBlock w r b) (some r) :=
 ⟨rfl,rfl,rfl,by simp [setBlock],fun k _ hk=>heap_setBlock_other h _ (fun e=>hk (by rw [e]))⟩
theorem fX {w:World} {r:Nat} {o b:Obj} (h:w.heap[r]?=some o):(setBlock w r b).heap[r]?=some b:=by
 have d:=fI h
 simp [setBlock,d]
section
variable {w:World} {r:Nat} {l:List (K×Value)} {mt e:TypeId} {z:Value}
theorem fS.entry (h:fS w r l) (S:Tryz.prog.underlying mt=some (.map 26 e)) (X:∀ u:World,(zeroValue e).run Tryz.prog u = .ok z u) (k:K) :
  ∃ m st,(∀ n,(Instr.mapEntry mt (.map (some r)) (kV k)).run Tryz.prog (w.drewN n) = .ok (.tuple #[(nk k l).getD z,goInt st]) (m.drewN n))∧fS m r (mD k ((nk k l).getD z) l)∧w.grownBy m (some r)∧m.heap.size=w.heap.size∧
   ∀ v,∃ D,(∀ n,(Instr.entryStore mt (.map (some r)) (goInt st) v).run Tryz.prog (m.drewN n) = .ok () (D.drewN n))∧fS D r (mD k v l)∧m.grownBy D (some r)∧D.heap.size=m.heap.size:=by
 obtain ⟨es,clock,B,hl,hc,E,hk⟩:=h
 have F:∀ n,(Instr.findKey 26 (kV k) es.toList).run Tryz.prog (w.drewN n) = .ok (gJ k l 0) (w.drewN n):=fun n=>kv k (w.drewN n) es.toList l hl
 have q:∀ n,(w.drewN n).heap[r]?=some (.map es clock):=fun n=>B
 rw [←kK k l 0]
 unfold mD
 cases s:gJ k l 0 with
 | none =>
  rw [s] at F
  have O:=iI k l 0 s
  have G:(es.push ⟨kV k,z,clock⟩).toList.map (·.born)=es.toList.map (·.born)++[clock]:=by simp
  have C:((es.push ⟨kV k,z,clock⟩).toList.map (·.born)).Nodup:=by
   rw [G]
   refine cj.2 ⟨E,by simp,fun a ha c y U => ?_⟩
   simp only [az] at y
   obtain ⟨x,d,rfl⟩:=aB.1 ha
   have:=hc x d
   omega
  have M:∀ v:Value,((l++[(k,v)]).map (·.1)).Nodup:=fun v=>by
   rw [bC]
   refine cj.2 ⟨hk,by simp,fun a ha c y U => ?_⟩
   simp at y
   obtain ⟨x,d,rfl⟩:=aB.1 ha
   exact O x d (U.trans y)
  have N:∀ v:Value,∀ x∈(es.push ⟨kV k,v,clock⟩).toList,x.born<clock+1:=by
   intro v x d
   simp at d
   rcases d with d | rfl
   ·have:=hc x (by simpa using d);omega
   ·simp
  have b:(setBlock w r (.map (es.push ⟨kV k,z,clock⟩) (clock+1))).heap[r]?=some (.map (es.push ⟨kV k,z,clock⟩) (clock+1)):=fX B
  refine ⟨setBlock w r (.map (es.push ⟨kV k,z,clock⟩) (clock+1)),clock,fun n => ?_,⟨_,_,b,by simp [hl],N z,C,M _⟩,gi B,by simp [setBlock],
   fun v=>⟨setBlock (setBlock w r (.map (es.push ⟨kV k,z,clock⟩) (clock+1))) r (.map (es.push ⟨kV k,v,clock⟩) (clock+1)),fun n => ?_,⟨_,_,fX b,by simp [hl],N v,by simpa using C,M _⟩,gi b,by simp [setBlock]⟩⟩
  ·simp [Instr.mapEntry,aN S,aM (q n),gT,F,X,bf _ (q n),Result.andThen]
   rfl
  ·have o:(es.push ⟨kV k,z,clock⟩).findIdx? (fun e=>((e.born:Nat):Int)==((clock:Nat):Int))=some es.size:=by
    rw [findIdx_arr]
    exact findIdx_born (l:=(es.push ⟨kV k,z,clock⟩).toList) (j:=es.size) (e0:=⟨kV k,z,clock⟩) C (by simp)
   have Q:(es.push ⟨kV k,z,clock⟩).modify es.size (fun e => {e with val:=v})=es.push ⟨kV k,v,clock⟩:=by
    apply Array.ext'
    rw [bJ,fC,fC,←dh,modify_last]
   have i:((setBlock w r (.map (es.push ⟨kV k,z,clock⟩) (clock+1))).drewN n).heap[r]?=some (.map (es.push ⟨kV k,z,clock⟩) (clock+1)):=b
   simp [Instr.entryStore,aM i,asInt,asIntOf,goInt,o,Q,bf _ i,Result.andThen]
   rfl
 | some x =>
  obtain ⟨j,u⟩:=x
  rw [s] at F
  obtain ⟨-,I⟩:=jw k l 0 j u s
  rw [cL] at I
  have V:∃ e0,es.toList[j]?=some e0∧e0.key=kV k∧e0.val=u:=by
   have h1:(es.toList.map (fun e=>(e.key,e.val)))[j]?=some (kV k,u):=by rw [hl,bh,I];rfl
   rw [bh] at h1
   obtain ⟨e0,h2,h3⟩:=cw.1 h1
   exact ⟨e0,h2,(Prod.mk.inj h3).1,(Prod.mk.inj h3).2⟩
  obtain ⟨e0,h2,h3,h4⟩:=V
  have W:es[j]?=some e0:=by simpa using h2
  have J:es.modify j (fun e => {e with key:=kV k})=es:=by
   apply Array.ext'
   rw [bJ,cY _ _ _ _ h2]
   have:({e0 with key:=kV k} : MapEntry)=e0:=by rw [←h3]
   rw [this]
   exact set_self _ _ _ h2
  have R:l.set j (k,u)=l:=set_self _ _ _ I
  simp only [dX,bT,R]
  have b:(setBlock w r (.map es clock)).heap[r]?=some (.map es clock):=fX B
  refine ⟨setBlock w r (.map es clock),e0.born,fun n => ?_,⟨_,_,b,hl,hc,E,hk⟩,gi B,by simp [setBlock],
   fun v=>⟨setBlock (setBlock w r (.map es clock)) r (.map (es.modify j (fun e => {e with val:=v})) clock),fun n => ?_,⟨_,_,fX b,?_,?_,?_,?_⟩,gi b,by simp [setBlock]⟩⟩
  ·simp [Instr.mapEntry,aN S,aM (q n),gT,F,W,h3,oK,J,bf _ (q n),Result.andThen]
   rfl
  ·have o:es.findIdx? (fun e=>((e.born:Nat):Int)==((e0.born:Nat):Int))=some j:=by
    rw [findIdx_arr]
    exact findIdx_born E h2
   have i:((setBlock w r (.map es clock)).drewN n).heap[r]?=some (.map es clock):=b
   simp [Instr.entryStore,aM i,asInt,asIntOf,goInt,o,bf _ i,Result.andThen]
   rfl
  ·rw [bJ,cY _ _ _ _ h2,cZ,hl,cZ,h3]
  ·intro x d
   rw [bJ,cY _ _ _ _ h2] at d
   rcases cT d with d | rfl
   ·exact hc x d
   ·exact hc e0 (aZ h2)
  ·rw [bJ,cY _ _ _ _ h2,cZ]
   rw [set_self _ _ _ (by rw [bh,h2];rfl)]
   exact E
  ·rw [oJ I]
   exact hk
end
end Go.Proofs.YtkkfmkhbdoeglaaGreatDoor.U
namespace Go.Proofs.YtkkfmkhbdoeglaaGreatDoor.U
open Go.RowKit Go.WideElems Go.ChangeMaps
section
variable {w:World} {r:Nat} {l:List (K×Value)} {mt e:TypeId} {z:Value}
theorem fS.update (h:fS w r l) (D:Tryz.prog.underlying mt=some (.map 26 e)) (k:K) (v:Value) :
  ∃ q,(∀ n,(Instr.mapUpdate mt (.map (some r)) (kV k) v).run Tryz.prog (w.drewN n) = .ok () (q.drewN n))∧fS q r (mD k v l)∧w.grownBy q (some r)∧q.heap.size=w.heap.size:=by
 obtain ⟨es,clock,o,hl,hc,E,hk⟩:=h
 have s:∀ n,(Instr.findKey 26 (kV k) es.toList).run Tryz.prog (w.drewN n) = .ok (gJ k l 0) (w.drewN n):=fun n=>kv k (w.drewN n) es.toList l hl
 have d:∀ n,(w.drewN n).heap[r]?=some (.map es clock):=fun n=>o
 unfold mD
 cases i:gJ k l 0 with
 | none =>
  rw [i] at s
  have B:=iI k l 0 i
  have y:(es.push ⟨kV k,v,clock⟩).toList.map (·.born)=es.toList.map (·.born)++[clock]:=by simp
  have F:((es.push ⟨kV k,v,clock⟩).toList.map (·.born)).Nodup:=by
   rw [y]
   refine cj.2 ⟨E,by simp,fun a ha c m G => ?_⟩
   simp only [az] at m
   obtain ⟨x,b,rfl⟩:=aB.1 ha
   have:=hc x b
   omega
  have I:((l++[(k,v)]).map (·.1)).Nodup:=by
   rw [bC]
   refine cj.2 ⟨hk,by simp,fun a ha c m G => ?_⟩
   simp at m
   obtain ⟨x,b,rfl⟩:=aB.1 ha
   exact B x b (G.trans m)
  have J:∀ x∈(es.push ⟨kV k,v,clock⟩).toList,x.born<clock+1:=by
   intro x b
   simp at b
   rcases b with b | rfl
   ·have:=hc x (by simpa using b);omega
   ·simp
  refine ⟨setBlock w r (.map (es.push ⟨kV k,v,clock⟩) (clock+1)),fun n => ?_,⟨_,_,fX o,by simp [hl],J,F,I⟩,gi o,by simp [setBlock]⟩
  simp [Instr.mapUpdate,aN D,aM (d n),gT,s,bf _ (d n),Result.andThen]
  rfl
 | some x =>
  obtain ⟨j,u⟩:=x
  rw [i] at s
  obtain ⟨-,C⟩:=jw k l 0 j u i
  rw [cL] at C
  have M:∃ e0,es.toList[j]?=some e0∧e0.key=kV k∧e0.val=u:=by
   have h1:(es.toList.map (fun e=>(e.key,e.val)))[j]?=some (kV k,u):=by rw [hl,bh,C];rfl
   rw [bh] at h1
   obtain ⟨e0,h2,h3⟩:=cw.1 h1
   exact ⟨e0,h2,(Prod.mk.inj h3).1,(Prod.mk.inj h3).2⟩
  obtain ⟨e0,h2,h3,h4⟩:=M
  have N:es[j]?=some e0:=by simpa using h2
  refine ⟨setBlock w r (.map (es.modify j (fun e => {e with key:=kV k,val:=v})) clock),fun n => ?_,⟨_,_,fX o,?_,?_,?_,?_⟩,gi o,by simp [setBlock]⟩
  ·simp [Instr.mapUpdate,aN D,aM (d n),gT,s,N,h3,oK,bf _ (d n),Result.andThen]
   rfl
  ·rw [bJ,cY _ _ _ _ h2,cZ,hl,cZ]
  ·intro x b
   rw [bJ,cY _ _ _ _ h2] at b
   rcases cT b with b | rfl
   ·exact hc x b
   ·exact hc e0 (aZ h2)
  ·rw [bJ,cY _ _ _ _ h2,cZ]
   rw [set_self _ _ _ (by rw [bh,h2];rfl)]
   exact E
  ·show ((l.set j (k,v)).map (·.1)).Nodup
   rw [oJ C]
   exact hk
theorem ix {α β:Type} (f : α→β):∀ (l:List α) (j:Nat),(l.eraseIdx j).map f=(l.map f).eraseIdx j
 | [],_=>by simp
 | x::l,0=>rfl
 | x::l,j+1=>by simp [ix f l j]
theorem fS.delete (h:fS w r l) (s:Tryz.prog.underlying mt=some (.map 26 e)) (k:K) (t2 ty:TypeId) :
  ∃ m,(∀ n,(Builtin.delete_ #[mt,t2] ty #[.map (some r),kV k]).run Tryz.prog (w.drewN n) = .ok (.tuple #[]) (m.drewN n))∧fS m r (vA k l)∧w.grownBy m (some r)∧m.heap.size=w.heap.size:=by
 obtain ⟨es,clock,i,hl,hc,y,hk⟩:=h
 have o:∀ n,(Instr.findKey 26 (kV k) es.toList).run Tryz.prog (w.drewN n) = .ok (gJ k l 0) (w.drewN n):=fun n=>kv k (w.drewN n) es.toList l hl
 have d:∀ n,(w.drewN n).heap[r]?=some (.map es clock):=fun n=>i
 unfold vA
 cases q:gJ k l 0 with
 | none =>
  rw [q] at o
  refine ⟨setBlock w r (.map es clock),fun n => ?_,⟨_,_,fX i,hl,hc,y,hk⟩,gi i,by simp [setBlock]⟩
  simp [Builtin.delete_,aN s,aM (d n),gT,o,bf _ (d n),Result.andThen]
  rfl
 | some x =>
  obtain ⟨j,u⟩:=x
  rw [q] at o
  have b:(es.eraseIdxIfInBounds j).toList=es.toList.eraseIdx j:=by
   unfold Array.eraseIdxIfInBounds
   split
   ·simp
   ·rw [List.eraseIdx_of_length_le (by rw [dh];omega)]
  refine ⟨setBlock w r (.map (es.eraseIdxIfInBounds j) clock),fun n => ?_,⟨_,_,fX i,?_,?_,?_,?_⟩,gi i,by simp [setBlock]⟩
  ·simp [Builtin.delete_,aN s,aM (d n),gT,o,bf _ (d n),Result.andThen]
   rfl
  ·rw [b,ix,hl,ix]
  ·intro x B
   rw [b] at B
   exact hc x ((dM _ _).subset B)
  ·rw [b,ix]
   exact y.sublist (dM _ _)
  ·show ((l.eraseIdx j).map (·.1)).Nodup
   rw [ix]
   exact hk.sublist (dM _ _)
end
end Go.Proofs.YtkkfmkhbdoeglaaGreatDoor.U
namespace Go.Proofs.YtkkfmkhbdoeglaaGreatDoor.U
open Go.RowKit
theorem oV {k:K} {v:Value} : ∀ {L:List (K×Value)},(L.map (·.1)).Nodup→(nk k L=some v↔(k,v)∈L)
 | [],_=>by simp [nk]
 | y::L,h=>by
  rw [bq,dw] at h
  unfold nk
  rw [dW]
  cases hk:(k==y.1) with
  | true =>
   rw [bj] at hk
   subst hk
   simp only [dX,eN,aV]
   constructor
   ·rintro rfl;exact .inl rfl
   ·rintro (e | hm)
    ·rw [←e]
    ·exact absurd (aB.2 ⟨_,hm,rfl⟩) h.1
  | false =>
   rw [aD] at hk
   have := @oV k v L h.2
   unfold nk at this
   simp only [this,aV]
   constructor
   ·exact .inr
   ·rintro (e | hm)
    ·exact absurd (by rw [←e]) hk
    ·exact hm
theorem qK {l:List K} (h:l.Nodup) {i j:Nat} (b:i<l.length) (d:j<l.length) (e:l[i]=l[j]):i=j :=
 (List.getElem?_inj b h).1 (by rw [ay b,ay d,e])
theorem qk (k:K) (v:Value) {L:List (K×Value)} (r:(L.map (·.1)).Nodup) (x:K×Value):x∈mD k v L↔x=(k,v)∨(x∈L∧x.1≠k):=by
 unfold mD
 cases m:gJ k L 0 with
 | none =>
  have ha:=iI k L 0 m
  simp only [bU,az]
  constructor
  ·rintro (h | h)
   ·exact .inr ⟨h,ha x h⟩
   ·exact .inl h
  ·rintro (h | h)
   ·exact .inr h
   ·exact .inl h.1
 | some y =>
  obtain ⟨j,u⟩:=y
  obtain ⟨-,o⟩:=jw k L 0 j u m
  rw [cL] at o
  obtain ⟨d,l⟩:=aG.1 o
  simp only
  constructor
  ·intro h
   obtain ⟨i,b,e⟩:=cH h
   rw [List.getElem_set] at e
   rw [b9] at b
   split at e
   ·exact .inl e.symm
   ·rename_i q
    refine .inr ⟨e▸cF b,fun hk=>q ?_⟩
    have h1:(L.map (·.1))[j]'(by simpa using d)=k:=by simp [l]
    have h2:(L.map (·.1))[i]'(by simpa using b)=k:=by simp [e,hk]
    exact qK r _ _ (h1.trans h2.symm)
  ·rintro (h | ⟨h1,h2⟩)
   ·rw [h]
    exact aZ (i:=j) (by rw [ea d])
   ·obtain ⟨i,b,rfl⟩:=cH h1
    refine aZ (i:=i) ?_
    rw [ew (fun e=>h2 (by subst e;rw [l])),ay b]
theorem CH (k:K) (v:Value) {L:List (K×Value)} (b:(L.map (·.1)).Nodup):((mD k v L).map (·.1)).Nodup:=by
 unfold mD
 cases d:gJ k L 0 with
 | none =>
  have ha:=iI k L 0 d
  show ((L++[(k,v)]).map (·.1)).Nodup
  rw [bC]
  refine cj.2 ⟨b,by simp,fun a i c hc e => ?_⟩
  simp at hc
  obtain ⟨x,m,rfl⟩:=aB.1 i
  exact ha x m (e.trans hc)
 | some y =>
  obtain ⟨j,u⟩:=y
  obtain ⟨-,l⟩:=jw k L 0 j u d
  rw [cL] at l
  show ((L.set j (k,v)).map (·.1)).Nodup
  rw [oJ l]
  exact b
theorem lP (k b:K) (v:Value) {L:List (K×Value)} (d:(L.map (·.1)).Nodup):nk b (mD k v L)=if b=k then some v else nk b L:=by
 have h1:∀ u,nk b (mD k v L)=some u↔(b,u)∈mD k v L:=fun u=>oV (CH k v d)
 have h2:∀ u,nk b L=some u↔(b,u)∈L:=fun u=>oV d
 by_cases e:b=k
 ·rw [aF e]
  exact (h1 v).2 ((qk k v d _).2 (.inl (by rw [e])))
 ·rw [aw e]
  cases ha:nk b L with
  | some u=>exact (h1 u).2 ((qk k v d _).2 (.inr ⟨(h2 u).1 ha,e⟩))
  | none =>
   cases i:nk b (mD k v L) with
   | none=>rfl
   | some u =>
    rcases (qk k v d _).1 ((h1 u).1 i) with h | ⟨h,-⟩
    ·exact absurd (bB Prod.fst h) e
    ·rw [(h2 u).2 h] at ha
     cases ha
theorem fS.Ai {w:World} {r:Nat} {L:List (K×Value)} (h:fS w r L):(L.map (·.1)).Nodup:=by
 obtain ⟨es,c,-,-,-,-,b⟩:=h
 exact b
end Go.Proofs.YtkkfmkhbdoeglaaGreatDoor.U
namespace Go.Proofs.YtkkfmkhbdoeglaaGreatDoor
def GP (o:OpB):K:=(o.table,o.key)
theorem Ij (S:List E) (o:OpB) (x:E):x∈Ef S o↔(o.kind=1∧x=(GP o,o.val))∨(x∈S∧x.1≠GP o):=by
 unfold Ef GP
 split
 ·rename_i h
  rw [jn]
  simp [h]
 ·rename_i h
  rw [my]
  simp [h]
theorem uj (p q:E→Bool) (h:∀ x,p x=true→q x=false):∀ S:List E,(S.filter p).length+(S.filter q).length≤S.length
 | []=>ah _
 | x::S=>by
  have ih:=uj p q h S
  cases b:p x with
  | true =>
   rw [fy b,eE (by rw [h x b];decide)]
   simp only [au]
   omega
  | false =>
   rw [eE (by rw [b];decide)]
   have:=dr q [x]
   cases hq:q x with
   | true=>rw [fy hq];simp only [au];omega
   | false=>rw [eE (by rw [hq];decide)];simp only [au];omega
theorem DY (S:List E) (o:OpB):(Ef S o).length≤S.length+1:=by
 unfold Ef
 split
 ·unfold jJ
  rw [ar,au]
  exact Nat.succ_le_succ (uj _ _ (fun x h=>kN h) S)
 ·unfold nQ
  exact eM (dr _ S)
theorem qa:∀ (os:List OpB) {S:List E} (_:SortedE S),(foldS S os).length≤S.length+os.length
 | [],_,_=>ah _
 | o::os,S,hs=>by
  have h1:=DY S o
  have h2:=qa os (ya o hs)
  show (foldS (Ef S o) os).length≤_
  simp only [au]
  omega
end Go.Proofs.YtkkfmkhbdoeglaaGreatDoor
namespace Go.Proofs.YtkkfmkhbdoeglaaGreatDoor
open Go.RowKit
def EntGood (x:E):Prop:=0≤x.1.1∧x.1.1<3∧iw x.1.1 x.1.2=true∧gG x.1.1 x.2=true
theorem sX:∀ (os:List OpB) (S:List E) (x:E),x∈foldS S os→x∈S∨∃ o∈os,o.kind=1∧x=(GP o,o.val)
 | [],_,_,h => .inl h
 | o::os,S,x,h=>by
  rcases sX os (Ef S o) x h with h | ⟨u,hu,e⟩
  ·rcases (Ij S o x).1 h with ⟨b,e⟩ | ⟨h,-⟩
   ·exact .inr ⟨o,by simp,b,e⟩
   ·exact .inl h
  ·exact .inr ⟨u,by simp [hu],e⟩
theorem oO {v:Nat} {os:List OpB} (h:gB v os=none):os.length≤8∧∀ o∈os,(o.kind=1∨o.kind=2)∧0≤o.table∧o.table<3∧iw o.table o.key=true∧od o=true:=by
 have b:os.length≤8∧fV 0 [] os=none:=by
  unfold gB at h
  split at h
  ·cases h
  ·split at h
   ·cases h
   ·exact ⟨by omega,h⟩
 refine ⟨b.1,fun o i => ?_⟩
 obtain ⟨k,hk,rfl⟩:=cH i
 obtain ⟨j,d⟩:=ja os 0 [] b.2 k hk
 obtain ⟨h1,h2,h3,h4,-,h6⟩:=nd d
 exact ⟨h1,h2,h3,h4,h6⟩
structure jy (m:Nat) (S:List E):Prop where
 len:S.length≤m
 sorted:SortedE S
 good:∀ x∈S,EntGood x
theorem jy.nil (m:Nat):jy m []:=⟨aL _,SortedE.nil,fun _ h=>by cases h⟩
theorem jy.fold {m:Nat} {S:List E} {v:Nat} {os:List OpB} (h:jy m S) (hw:gB v os=none):jy (m+8) (foldS S os):=by
 obtain ⟨h8,d⟩:=oO hw
 refine ⟨?_,nW os h.sorted,fun x b => ?_⟩
 ·have:=qa os h.sorted
  have:=h.len
  omega
 ·rcases sX os S x b with b | ⟨o,hm,hk,rfl⟩
  ·exact h.good x b
  ·obtain ⟨-,h2,h3,h4,h6⟩:=d o hm
   unfold od at h6
   rw [aw (by omega)] at h6
   exact ⟨h2,h3,h4,h6⟩
theorem jy.mono {m b:Nat} {S:List E} (h:jy m S) (hm:m≤b):jy b S:=⟨aI h.len hm,h.sorted,h.good⟩
theorem jy.apply {m:Nat} {S:List E} (h:jy m S) (v:Nat) (os:List OpB):jy (m+8) (j8 v S os):=by
 unfold j8
 cases hw:gB v os with
 | none=>exact h.fold hw
 | some f=>exact h.mono (by omega)
theorem jy.fit {m:Nat} {S:List E} (h:jy m S):Gq S:=fun x i=>by
 obtain ⟨g0,g2,g3,g4⟩:=h.good x i
 have b:=jg g3
 have d:=iO g0 g2 g4
 have j:x.1.1=0∨x.1.1=1∨x.1.1=2:=by omega
 rcases j with e | e | e <;> (rw [e] at b d;unfold fN at b;unfold fZ at d;simp at b d;omega)
theorem EP {x:E} (h:EntGood x):gB 1 [mF x]=none:=by
 obtain ⟨d,h3,hk,b⟩:=h
 have h1:ij (mF x) []=0:=by
  unfold ij mF od
  rw [aw (by simp only [];omega),aw (by simp only [hk];decide),aw (by simp),aw (by simp only [];rw [aw (by decide),b];decide)]
 unfold gB
 rw [aw (by decide),aw (by simp)]
 unfold fV
 rw [aF h1]
 rfl
theorem DX {S:List E} (hs:SortedE S) (m:∀ x∈S,EntGood x):pF S=S:=by
 have key:∀ (l p:List E),SortedE (p++l)→(∀ x∈l,EntGood x)→l.foldl (fun S x=>j8 1 S [mF x]) p=p++l:=by
  intro l
  induction l with
  | nil=>intro p _ _;simp
  | cons x l ih =>
   intro p j d
   have h1:j8 1 p [mF x]=p++[x]:=by
    unfold j8
    rw [EP (d x (by simp))]
    show jJ (x.1.1,x.1.2) x.2 p=_
    have i:∀ y∈p,nJ y.1 x.1=true:=fun y b=>(dB.1 j).2.2 y b x (by simp)
    unfold jJ
    rw [ez.2 i,dZ.2 (fun y b=>by rw [kN (i y b)];decide)]
   rw [eI,h1,ih (p++[x]) (by simpa using j) (fun y b=>d y (by simp [b]))]
   simp
 exact key S [] hs m
end Go.Proofs.YtkkfmkhbdoeglaaGreatDoor
namespace Go.Proofs.YtkkfmkhbdoeglaaGreatDoor
open Go.RowKit
theorem sx (x:UInt8):UInt8.ofNat x.toNat=x:=by simp
theorem pY (x:E):jz x=UInt8.ofNat x.1.1.toNat::(x.1.2++x.2):=rfl
theorem BO (s:List UInt8) (q:Nat) (o:Option K) (x:E) (rest:List UInt8) (m:EntGood x) (r:∀ k,o=some k→nJ k x.1=true) (hd:s.drop q=jz x++rest) :
  lA s q o = .inl (x,q+(jz x).length):=by
 obtain ⟨⟨T,i⟩,d⟩:=x
 obtain ⟨g0,g3,hk,l⟩:=m
 simp only at g0 g3 hk l
 have j:=jg hk
 have lv:=iO g0 g3 l
 have u:((UInt8.ofNat T.toNat).toNat:Int)=T:=by simp;omega
 have e0:s.drop q=UInt8.ofNat T.toNat::(i++d++rest):=by rw [hd,pY];simp
 have t1:(i++d++rest).take (fN T)=i:=by rw [bg,←j,ep]
 have t2:((i++d++rest).drop (fN T)).take (fZ T)=d:=by rw [bg,←j,eB,←lv,ep]
 have hl:(i++d++rest).length=fN T+fZ T+rest.length:=by simp [j,lv];omega
 have hq:q+(jz ((T,i),d)).length=q+1+fN T+fZ T:=by rw [pY];simp [j,lv];omega
 unfold lA
 rw [e0,hq]
 simp only [u,t1,t2]
 rw [aw (by omega),aw (by omega),aw (by rw [hk];decide)]
 have h4:∀ b:Bool,(b=true)→(if b=false then Sum.inr (14,q+1) else if (i++d++rest).length<fN T+fZ T then .inr (1,q+1+fN T) else if gG T d=false then .inr (9,q+1+fN T) else .inl (((T,i),d),q+1+fN T+fZ T):(E×Nat)⊕(Nat×Nat)) = .inl (((T,i),d),q+1+fN T+fZ T):=by
  intro b y
  rw [y,aw (by decide),aw (by omega),aw (by rw [l];decide)]
 cases o with
 | none=>exact h4 true rfl
 | some k=>exact h4 _ (r k rfl)
theorem rY (s:List UInt8):∀ (l es:List E) (q:Nat) (rest:List UInt8),SortedE (es++l)→(∀ x∈l,EntGood x)→s.drop q=js l++rest→iW s l.length q es = .inl (q+(js l).length,es++l)
 | [],es,q,rest,_,_,_=>by simp [iW,js]
 | x::l,es,q,rest,hs,i,hd=>by
  have b:js (x::l)=jz x++js l:=rfl
  have j:∀ k,es.getLast?.map (·.1)=some k→nJ k x.1=true:=fun k hk=>by
   cases d:es.getLast? with
   | none=>rw [d] at hk;cases hk
   | some z =>
    rw [d] at hk
    cases hk
    exact (dB.1 hs).2.2 z (List.mem_of_getLast? d) x (by simp)
  have h1:=BO s q (es.getLast?.map (·.1)) x (js l++rest) (i x (by simp)) j (by rw [hd,b,bg])
  have ih:=rY s l (es++[x]) (q+(jz x).length) rest (by simpa using hs) (fun y m=>i y (by simp [m])) (by rw [←cO,hd,b,bg,eB])
  rw [au,iW,h1]
  simp only []
  rw [ih,b,ar,aW]
  simp
theorem tJ {v:Nat} {S:List E} (i:isVersionB v=true) (hs:SortedE S) (m:∀ x∈S,EntGood x) (hl:S.length<65536):iD (gH v S) = .inl (v,S):=by
 have h8:(j4 v).length=8:=fY v
 have e:gH v S=j4 v++(UInt8.ofNat (S.length / 256)::UInt8.ofNat S.length::js S):=by unfold gH;simp
 have o:(gH v S).take 8=j4 v:=by rw [e,←h8,ep]
 have b:(gH v S).drop 8=UInt8.ofNat (S.length / 256)::UInt8.ofNat S.length::js S:=by rw [e,←h8,eB]
 have el:(gH v S).length=10+(js S).length:=by rw [e];simp [h8];omega
 have j:(gH v S).getD 8 0=UInt8.ofNat (S.length / 256):=by
  have:((gH v S).drop 8)[0]?=some (UInt8.ofNat (S.length / 256)):=by rw [b];rfl
  rw [dy] at this
  rw [aP,this];rfl
 have l:(gH v S).getD 9 0=UInt8.ofNat S.length:=by
  have:((gH v S).drop 8)[1]?=some (UInt8.ofNat S.length):=by rw [b];rfl
  rw [dy] at this
  rw [aP,this];rfl
 have d:(gH v S).drop 10=js S++[]:=by
  have:((gH v S).drop 8).drop 2=js S:=by rw [b];rfl
  rw [cO] at this
  rw [this,cN]
 have q:(UInt8.ofNat (S.length / 256)).toNat*256+(UInt8.ofNat S.length).toNat=S.length:=by simp;omega
 rw [nP]
 unfold mg
 rw [aw (by omega),o,sw v (j6 i),aw (by rw [i];decide),aw (by omega),j,l,q,rY (gH v S) S [] 10 [] hs m d]
 simp only []
 rw [aw (by omega),aQ]
theorem BN {s:List UInt8} {q b:Nat} {o:Option K} {x:E} (h:lA s q o = .inl (x,b)):EntGood x∧s.drop q=jz x++s.drop b:=by
 obtain ⟨-,-,i,h3,hk,j,-⟩:=o6 h
 refine ⟨⟨i,h3,hk,j⟩,?_⟩
 have u:=jg hk
 have lv:=iO i h3 j
 unfold lA at h
 cases hd:s.drop q with
 | nil=>rw [hd] at h;cases h
 | cons t r =>
  rw [hd] at h
  have key:∀ c:Bool,(if 2<t.toNat then Sum.inr (6,q)
   else if r.length<fN (t.toNat:Int) then .inr (1,q+1)
   else if iw (t.toNat:Int) (r.take (fN (t.toNat:Int)))=false then .inr (7,q+1)
   else if c=false then .inr (14,q+1)
   else if r.length<fN (t.toNat:Int)+fZ (t.toNat:Int) then .inr (1,q+1+fN (t.toNat:Int))
   else if gG (t.toNat:Int) ((r.drop (fN (t.toNat:Int))).take (fZ (t.toNat:Int)))=false then .inr (9,q+1+fN (t.toNat:Int))
   else .inl ((((t.toNat:Int),r.take (fN (t.toNat:Int))),(r.drop (fN (t.toNat:Int))).take (fZ (t.toNat:Int))),q+1+fN (t.toNat:Int)+fZ (t.toNat:Int)))=(.inl (x,b):(E×Nat)⊕(Nat×Nat))→
   x=(((t.toNat:Int),r.take (fN (t.toNat:Int))),(r.drop (fN (t.toNat:Int))).take (fZ (t.toNat:Int)))∧b=q+1+fN (t.toNat:Int)+fZ (t.toNat:Int):=by
   intro c h
   split at h
   ·cases h
   split at h
   ·cases h
   split at h
   ·cases h
   split at h
   ·cases h
   split at h
   ·cases h
   split at h
   ·cases h
   obtain ⟨d,hq⟩:=Prod.mk.inj (Sum.inl.inj h)
   exact ⟨d.symm,hq.symm⟩
  have d:x=(((t.toNat:Int),r.take (fN (t.toNat:Int))),(r.drop (fN (t.toNat:Int))).take (fZ (t.toNat:Int)))∧b=q+1+fN (t.toNat:Int)+fZ (t.toNat:Int):=by
   cases o with
   | none=>exact key true h
   | some y=>exact key _ h
  obtain ⟨rfl,rfl⟩:=d
  have l:=(drop1 hd).1
  rw [pY]
  simp only [dU,sx]
  have m:s.drop (q+1+fN (t.toNat:Int)+fZ (t.toNat:Int))=(r.drop (fN (t.toNat:Int))).drop (fZ (t.toNat:Int)):=by
   rw [←l,cO,cO,aW]
  rw [m,aX,bg,cy,cy]
theorem rX {s:List UInt8} : ∀ {n q d:Nat} {es b:List E},iW s n q es = .inl (d,b)→q≤s.length→∃ l,b=es++l∧(∀ x∈l,EntGood x)∧s.drop q=js l++s.drop d∧d≤s.length
 | 0,q,d,es,b,h,hq=>by
  obtain ⟨rfl,rfl⟩:=Prod.mk.inj (Sum.inl.inj h)
  exact ⟨[],by simp,(fun x i=>by cases i),by simp [js],hq⟩
 | n+1,q,d,es,b,h,hq=>by
  unfold iW at h
  cases he:lA s q (es.getLast?.map (·.1)) with
  | inr f=>rw [he] at h;cases h
  | inl r =>
   obtain ⟨x,u⟩:=r
   rw [he] at h
   obtain ⟨l,rfl,hl,hd,m⟩:=rX h (o6 he).2.1
   obtain ⟨i,o⟩:=BN he
   refine ⟨x::l,by simp,fun y j => ?_,?_,m⟩
   ·rcases aV.1 j with rfl | j
    ·exact i
    ·exact hl y j
   ·rw [o,hd]
    show _=jz x++js l++_
    rw [bg]
theorem nO {s:List UInt8} {n:Nat} {S:List E} (h:iD s = .inl (n,S)):isVersionB n=true∧(∀ x∈S,EntGood x)∧gH n S=s:=by
 have hlen:=(pV h).1
 rw [nP] at h
 unfold mg at h
 split at h
 ·cases h
 split at h
 ·cases h
 split at h
 ·cases h
 rename_i h1 h2 h3
 cases hc:iW s ((s.getD 8 0).toNat*256+(s.getD 9 0).toNat) 10 [] with
 | inr f=>rw [hc] at h;cases h
 | inl x =>
  obtain ⟨m,b⟩:=x
  rw [hc] at h
  simp only at h
  split at h
  ·cases h
  rename_i h4
  obtain ⟨rfl,rfl⟩:=Prod.mk.inj (Sum.inl.inj h)
  have i:=o5 hc
  obtain ⟨l,hl,d,hd,hq⟩:=rX hc (by omega)
  rw [aQ] at hl
  subst hl
  rw [aJ,bF] at i
  refine ⟨by simpa using h2,d,?_⟩
  have j:s.drop m=[]:=fD (by omega)
  rw [j,cN] at hd
  have ha:=(s.getD 8 0).toNat_lt
  have o:=(s.getD 9 0).toNat_lt
  have y:(s.getD 8 0).toNat<256:=ha
  have B:(s.getD 9 0).toNat<256:=o
  have q:b.length / 256=(s.getD 8 0).toNat:=by omega
  have r:UInt8.ofNat b.length=s.getD 9 0:=by
   apply eu.1
   have h9:(UInt8.ofNat b.length).toNat=b.length%256:=by simp
   rw [h9]
   omega
  unfold gH
  rw [zG _ (by rw [aA];omega),q,sx,r,←hd]
  have g8:s.getD 8 0=s[8]'(by omega):=by rw [aP,ay (by omega)];rfl
  have g9:s.getD 9 0=s[9]'(by omega):=by rw [aP,ay (by omega)];rfl
  rw [g8,g9]
  have u:s.drop 8=s[8]'(by omega)::s[9]'(by omega)::s.drop 10:=by
   rw [cd (by omega),cd (by omega)]
  calc s.take 8++[s[8]'(by omega),s[9]'(by omega)]++s.drop 10=s.take 8++s.drop 8:=by rw [u];simp
   _=s:=cy 8 s
end Go.Proofs.YtkkfmkhbdoeglaaGreatDoor
