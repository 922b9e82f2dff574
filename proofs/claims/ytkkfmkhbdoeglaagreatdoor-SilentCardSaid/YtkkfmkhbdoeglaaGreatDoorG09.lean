/- A part of what is proved here: lemmas and contracts of single functions. No condition but those that each names. -/
import Derived.Test.YtkkfmkhbdoeglaaGreatDoorG00
import Derived.BigRegion
import Derived.Deep.RegionHeld
import Derived.Deep.RegionHeld3
import Derived.Deep.RegionLaw
import Derived.LoopIn
import Derived.OrdersHeld
import Derived.RegionTactic
import Derived.Shelf.Abstract
import Derived.TacticsInMore
import Derived.Test.YtkkfmkhbdoeglaaGreatDoorG02
import Derived.Test.YtkkfmkhbdoeglaaGreatDoorG04
import Derived.Test.YtkkfmkhbdoeglaaGreatDoorG07
import Derived.Test.YtkkfmkhbdoeglaaGreatDoorG08
set_option maxHeartbeats 4000000
set_option maxRecDepth 100000
namespace Go.Proofs.YtkkfmkhbdoeglaaGreatDoor
def applySel {α:Type} (b:Nat→Bool):Nat→List (α×Nat)→List α→List α
 | _,[],d=>d
 | k,(p,n)::l,d=>applySel b (k+1) l (if b k then d.set n p else d)
theorem qX {α β:Type} (f : α→β) (b:Nat→Bool):∀ (k:Nat) (l:List (α×Nat)) (d:List α),(applySel b k l d).map f=applySel b k (l.map fun x=>(f x.1,x.2)) (d.map f)
 | _,[],d=>rfl
 | k,(p,n)::l,d=>by
  rw [bg]
  unfold applySel
  rw [qX f b (k+1) l]
  congr 1
  split
  ·rw [cV]
  ·rfl
theorem jF {α:Type} (b:Nat→Bool):∀ (k:Nat) (l:List (α×Nat)) (d:List α),(applySel b k l d).length=d.length
 | _,[],d=>rfl
 | k,(p,n)::l,d=>by
  unfold applySel
  rw [jF b (k+1) l]
  split
  ·rw [bU]
  ·rfl
theorem l8 {α:Type} (b:Nat→Bool):∀ (k:Nat) (i:List α) (at':Nat) (d:List α),at'+i.length≤d.length→∀ j,(applySel b k (i.zipIdx at') d)[j]?=if at'≤j∧j<at'+i.length∧b (k+(j-at'))=true then i[j-at']? else d[j]?
 | k,[],at',d,_,j=>by
  rw [au (by simp;omega)]
  rfl
 | k,q::i,at',d,h,j=>by
  rw [List.zipIdx_cons]
  unfold applySel
  rw [ar] at h
  rw [l8 b (k+1) i (at'+1) _ (by split <;> (try rw [bU]) <;> omega) j]
  by_cases s:j=at'
  ·subst s
   rw [au (by omega),dU,cx]
   by_cases hs:b k=true
   ·rw [aB hs,aB ⟨af _,by rw [ar];omega,hs⟩,dT (by omega)]
    rfl
   ·rw [au hs,au (fun h=>hs h.2.2)]
  ·have r:(if b k=true then d.set at' q else d)[j]?=d[j]?:=by
    split
    ·rw [eo (by omega)]
    ·rfl
   rw [r]
   by_cases u:j<at'
   ·rw [au (by omega),au (by omega)]
   ·obtain ⟨m,rfl⟩:∃ m,j=at'+1+m:=⟨j-(at'+1),by omega⟩
    rw [show at'+1+m-(at'+1)=m by omega,show at'+1+m-at'=m+1 by omega,show k+1+m=k+(m+1) by omega,aX,ar]
    have l:(at'+1≤at'+1+m∧at'+1+m<at'+1+i.length∧b (k+(m+1))=true)↔(at'≤at'+1+m∧at'+1+m<at'+(i.length+1)∧b (k+(m+1))=true) :=
     ⟨fun ⟨h1,h2,h3⟩=>⟨by omega,by omega,h3⟩,fun ⟨h1,h2,h3⟩=>⟨by omega,by omega,h3⟩⟩
    by_cases o:at'+1≤at'+1+m∧at'+1+m<at'+1+i.length∧b (k+(m+1))=true
    ·rw [aB o,aB (l.1 o)]
    ·rw [au o,au fun h=>o (l.2 h)]
theorem yj {d ps:List Part} {at' m:Nat} (b:Nat→Bool) (h:at'+ps.length≤d.length):lX d (applySel b 0 ((ps.take m).zipIdx at') d) at' ps:=by
 have hl:(ps.take m).length≤ps.length:=by rw [aD];omega
 refine ⟨jF _ _ _ _,fun j => ?_⟩
 rw [l8 b 0 (ps.take m) at' d (by omega) j]
 split
 ·rename_i hc
  refine .inr ⟨hc.1,by omega,?_⟩
  have:=hc.2.1
  rw [aD] at this
  rw [bh (by omega)]
 ·exact .inl rfl
theorem AA {d ps:List Part} {at':Nat} (h:at'+ps.length≤d.length):kJ (applySel (fun _=>true) 0 (ps.zipIdx at') d) at' ps:=by
 intro i b
 rw [l8 _ 0 ps at' d h (at'+i),aB ⟨by omega,by omega,rfl⟩,Nat.add_sub_cancel_left]
def parseSec (b:List UInt8):Part:=⟨iw (b.take 8),(b.getD 8 0).toNat,(b.getD 9 0).toNat,decide ((b.getD 10 0).toNat≤53),(b.drop 11).take (b.getD 10 0).toNat⟩
def iV (s i n:Nat) (c:List UInt8):List UInt8:=j4 s++[UInt8.ofNat i,UInt8.ofNat n,UInt8.ofNat c.length]++c
def jd (b:List UInt8):List UInt8:=b++List.replicate (64-b.length) 0
theorem oR (s i n:Nat) (c:List UInt8):(iV s i n c).length=11+c.length:=by
 unfold iV
 rw [aq,aq,fQ]
 rfl
theorem lM {b:List UInt8} (h:b.length≤64):(jd b).length=64:=by
 unfold jd
 rw [aq,bu]
 omega
theorem wH {s i n:Nat} {c:List UInt8} (hs:s<18446744073709551616) (m:i<256) (o:n<256) (hc:c.length≤53):parseSec (jd (iV s i n c))=⟨s,i,n,true,c⟩:=by
 obtain ⟨b,d⟩:∃ b,b=List.replicate (64-(iV s i n c).length) (0:UInt8):=⟨_,rfl⟩
 have e:jd (iV s i n c)=j4 s++(UInt8.ofNat i::UInt8.ofNat n::UInt8.ofNat c.length::(c++b)):=by
  unfold jd
  rw [←d]
  unfold iV
  simp
 have h8:=fQ s
 have g:∀ j,(j4 s++(UInt8.ofNat i::UInt8.ofNat n::UInt8.ofNat c.length::(c++b))).getD (8+j) 0=(UInt8.ofNat i::UInt8.ofNat n::UInt8.ofNat c.length::(c++b)).getD j 0:=fun j=>by
  rw [aN,cC (by omega),show 8+j-(j4 s).length=j by omega,←aN]
 have g0:=g 0
 have g1:=g 1
 have g2:=g 2
 simp only [cx,Nat.reduceAdd,List.getD_cons_zero,List.getD_cons_succ] at g0 g1 g2
 have l:(UInt8.ofNat c.length).toNat=c.length:=by simp;omega
 unfold parseSec
 rw [e,g0,g1,g2,List.take_append_of_le_length (by omega),aS (by omega),uP s hs,l]
 have hd:(j4 s++(UInt8.ofNat i::UInt8.ofNat n::UInt8.ofNat c.length::(c++b))).drop 11=c++b:=by
  rw [List.drop_append,fm (by omega),show 11-(j4 s).length=3 by omega]
  rfl
 rw [hd,List.take_append_of_le_length (by omega),aS (by omega)]
 have h1:(UInt8.ofNat i).toNat=i:=by simp;omega
 have h2:(UInt8.ofNat n).toNat=n:=by simp;omega
 rw [h1,h2]
 simp [hc]
def partsOf (len:Nat):Nat:=(len+52) / 53
def je (data:List UInt8) (i:Nat):List UInt8:=(data.drop (53*i)).take 53
def fR (s:Nat) (data:List UInt8):List (List UInt8):=(List.range (partsOf data.length)).map fun i=>jd (iV s i (partsOf data.length) (je data i))
theorem iC (s:Nat) (data:List UInt8):(fR s data).length=partsOf data.length:=by simp [fR]
theorem ot (data:List UInt8) (i:Nat):(je data i).length≤53:=by
 unfold je
 rw [aD]
 omega
theorem rX (data:List UInt8):∀ n,(List.range n).flatMap (je data)=data.take (53*n)
 | 0=>by simp
 | n+1=>by
  rw [List.range_succ,et,rX data n,cN,List.flatMap_nil,cZ]
  unfold je
  rw [show 53*(n+1)=53*n+53 by omega,List.take_add]
theorem zQ {s:Nat} {data:List UInt8} (hs:s<18446744073709551616) (l:0<data.length) (j:partsOf data.length<256):nM s ((fR s data).map parseSec) data:=by
 have d:∀ i,i<partsOf data.length→((fR s data).map parseSec)[i]?=some ⟨s,i,partsOf data.length,true,je data i⟩:=fun i b=>by
  unfold fR
  rw [List.map_map,be,List.getElem?_range b]
  show some (parseSec _)=_
  rw [wH hs (by omega) j (ot _ _)]
 have hlen:((fR s data).map parseSec).length=partsOf data.length:=by rw [aG,iC]
 refine ⟨by rw [hlen];unfold partsOf;omega,fun i p h => ?_,?_⟩
 ·have b:=(aF.1 h).1
  rw [hlen] at b
  rw [d i b] at h
  cases h
  exact ⟨rfl,rfl,hlen.symm,rfl⟩
 ·have e:((fR s data).map parseSec).flatMap (·.data)=(List.range (partsOf data.length)).flatMap (je data):=by
   rw [ue,hlen]
   refine kQ fun i b => ?_
   rw [aN,d i (cR.1 b)]
   rfl
  rw [e,rX,aS]
  unfold partsOf
  omega
def placeOf (n:Nat):Nat:=(16*(n-8)+62) / 53
theorem iT {n:Nat} (h1:32≤n) (h2:n≤128):8≤placeOf n∧placeOf n≤37∧2*placeOf n+16≤n:=by
 unfold placeOf
 omega
theorem lN {len n:Nat} (h:len≤10+16*(n-8)):partsOf len≤placeOf n:=by
 unfold partsOf placeOf
 omega
def stampsLe (d:List (List UInt8)) (s:Nat):Prop:=∀ b∈d,(parseSec b).stamp≤s
theorem stampsLe.fresh {d:List (List UInt8)} {s:Nat} (h:stampsLe d s):∀ b∈d.map parseSec,b.stamp<s+1:=by
 intro b i
 obtain ⟨x,j,rfl⟩:=az.1 i
 have:=h x j
 omega
theorem stampsLe.apply {d:List (List UInt8)} {s:Nat} {data:List UInt8} (h:stampsLe d s) (hs:s+1<18446744073709551616) (q:partsOf data.length<256) (o:Nat→Bool) (m at':Nat) (hl:at'+partsOf data.length≤d.length):stampsLe (applySel o 0 (((fR (s+1) data).take m).zipIdx at') d) (s+1):=by
 intro b r
 obtain ⟨j,l⟩:=List.mem_iff_getElem?.1 r
 have hlen:((fR (s+1) data).take m).length≤partsOf data.length:=by rw [aD,iC];omega
 rw [l8 o 0 _ at' d (by omega) j] at l
 split at l
 ·have hm:=dr (aU l)
  unfold fR at hm
  obtain ⟨i,u,rfl⟩:=az.1 hm
  have:=cR.1 u
  rw [wH hs (by omega) q (ot _ _)]
  exact af _
 ·have:=h b (aU l)
  omega
def ib:List UInt8:=List.replicate 64 0
theorem uF:(parseSec ib).stamp=0:=by decide
theorem EI {T O:Type} (decS:List UInt8→Option (Nat×T)) (decD:List UInt8→Option (Nat×O)) (app:T→O→T) (t0:T) (n p:Nat):DiskInv decS decD app t0 ((List.replicate n ib).map parseSec) p 0 0 t0 (2*p):=by
 have l:∀ b∈(List.replicate n ib).map parseSec,b.stamp=0:=fun b j=>by
  obtain ⟨x,o,rfl⟩:=az.1 j
  rw [(List.mem_replicate.1 o).2]
  exact uF
 have d:∀ m i x,¬WholeAt (((List.replicate n ib).map parseSec).take m) i x:=fun m i x h=>by
  obtain ⟨b,j,e⟩:=h.pM
  obtain ⟨k,-,q,-⟩:=h
  exact q (by rw [←e];exact l b (dr j))
 refine ⟨0,0,t0,[],0,.inl ⟨rfl,rfl,rfl,rfl,fun s x _=>d _ _ x⟩,.nil _ _ _ _,fun i x _ h => ?_⟩
 have:=d n i x
 rw [aS (by simp)] at this
 exact absurd h this
end Go.Proofs.YtkkfmkhbdoeglaaGreatDoor
namespace Go.Proofs.YtkkfmkhbdoeglaaGreatDoor
structure fx where
 held:List (List UInt8)
 seen:List (List UInt8)
 late:List (List UInt8×Nat)
 fail:Int
 writes:Int
 dp:DpS
def fx.asked (H:fx):fx := {H with fail:=if H.fail<0 then H.fail else H.fail-1}
def fx.gy (H:fx):Bool:=decide (H.fail=0)
def fx.read (H:fx) (n:Nat):fx×Option (List UInt8):=(H.asked,if H.gy then none else H.seen[n]?)
def fx.write (H:fx) (n:Nat) (s:List UInt8):fx×Option Nat :=
 if H.gy then (H.asked,some (n+2))
 else ({H.asked with writes:=H.writes+1,seen:=H.seen.set n s,dp:=H.dp.stop,late:=if H.dp.stop.dead then H.late else H.late++[(s,n)]},none)
def fx.flush (H:fx):fx×Option Nat :=
 if H.gy then (H.asked,some 1)
 else if H.dp.stop.dead then ({H.asked with dp:=H.dp.stop},none)
 else ({H.asked with dp:=H.dp.stop,held:=applySel (fun _=>true) 0 H.late H.held,late:=[]},none)
def fZ:List (List UInt8)→fx→Nat→fx×Option Nat
 | [],H,_=>(H,none)
 | s::l,H,at'=>match H.write at' s with
  | (H1,some f)=>(H1,some f)
  | (H1,none)=>fZ l H1 (at'+1)
end Go.Proofs.YtkkfmkhbdoeglaaGreatDoor
namespace Go.Proofs.YtkkfmkhbdoeglaaGreatDoor
open Go.RowKit
def CellsOf (w:World) (v:Value) (e:TypeId):Prop:=∀ b,v.ownBlock=some b→∃ C fz,w.heap[b]?=some (.cells C e fz)
theorem qa (g:Nat):∀ (d:List Value) (o:Nat) (w:World) {C:Array Value} {e:TypeId} {fz:Nat×Nat},w.heap[g]?=some (.cells C e fz)→∃ b,(w.setCells g o d).heap[g]?=some (.cells b e fz)
 | [],_,_,C,_,_,h=>⟨C,h⟩
 | v::d,o,w,C,e,fz,h=>by
  simp only [World.setCells]
  have h1:∃ b,(w.setCell ⟨g,o,none⟩ v).heap[g]?=some (.cells b e fz):=by
   obtain ⟨i,hk⟩:=cj.1 h
   have j:(w.setCell ⟨g,o,none⟩ v).heap[g]?=some ((w.setCell ⟨g,o,none⟩ v).heap[g]'(by rw [size_setCell];exact i)):=cm _
   rw [j]
   simp only [World.setCell,Array.getElem_modify_self,hk]
   exact ⟨_,rfl⟩
  obtain ⟨b,h1⟩:=h1
  exact qa g d (o+1) _ h1
theorem jr {P:Program} (w:World) (base:Nat) (t r ty e:TypeId) (i:TypeInfo) (z:Value) (D:P.underlying t=some (.slice e)) (E:P.info? e=some i) (R:i.zero=some z) (S:z.cells.size=i.size) (U:0<i.size)
  (v:Value) (n:Nat) (xs:List Value) (s:OwnS w base i.size v n xs) (Y:CellsOf w v e) (x:Value) (m:Nat) (news:List Value) (hs:Src P i.size r x m news w)
  (V:n+m≤maxLen) (l:(n+m)*i.bytes≤140737488355328) (F:base≤w.heap.size) :
  ∃ v' w',(Builtin.append_ #[t,r] ty #[v,x]).run P w = .ok v' w'∧OwnS w' base i.size v' (n+m) (xs++news)∧w.grownBy w' v.ownBlock∧CellsOf w' v' e:=by
 have hmx:maxLen=9223372036854775807:=rfl
 obtain ⟨v',w',G,h1,h2,h3⟩:=jz (P:=P) w base t r ty e i z D E R S U v n xs s x m news hs V l F
 refine ⟨v',w',G,h1,h2,?_⟩
 rcases h3 with ⟨g,off,cap,rfl,rfl,rfl⟩ | rfl | ⟨cap',rfl,-⟩
 ·intro b y
  obtain rfl:g=b:=by simpa [Value.ownBlock] using y
  obtain ⟨C,fz,Z⟩:=Y g rfl
  obtain ⟨C',W⟩:=qa g news (off+n*i.size) w Z
  exact ⟨C',fz,W⟩
 ·intro b y
  simp [Value.ownBlock] at y
 ·have key:∀ (d:Option Addr) (fP:Nat),v = .slice d n fP→fP<n+m→(Builtin.firstCells i.size n (.slice d n fP)).run P w.drew = .ok xs.toArray w.drew→CellsOf w' (.slice (some ⟨w.heap.size,0,none⟩) (n+m) cap') e:=by
   intro d fP M X N
   subst M
   have B:=run_append_grow_src (P:=P) w t r ty e i z D E R d n fP xs N x m news hs X (by omega) (growslice_fits X l)
   have hw:=G.symm.trans B
   injection hw with _ hw
   subst hw
   intro b y
   obtain rfl:w.heap.size=b:=by simpa [Value.ownBlock] using y
   exact ⟨_,_,fA w.drew _⟩
  obtain ⟨J,⟨rfl,rfl⟩ | ⟨g,off,cap,rfl,al,am,ap,av,I,o⟩⟩:=s
  ·have hx:xs=[]:=bT (by simpa using J)
   subst hx
   by_cases hm:m=0
   ·subst hm
    have hn:news=[]:=bT (by simpa using hs.newsLen)
    subst hn
    have hl:=hs.len w
    have hc:=hs.cells
    have O:(Builtin.append_ #[t,r] ty #[.slice none 0 0,x]).run P w = .ok (.slice none 0 0) w:=by
     rcases hs.kind with ⟨e',hk⟩ | hk <;> simp [Builtin.append_,aL D,aL hk,sizeOf,typeInfo,E,hl,hc]
    have hw:=G.symm.trans O
    cases hw
   ·exact key none 0 rfl (by omega) (eM w.drew i.size 0 0 0)
  ·by_cases q:n+m≤cap
   ·have aE:n*i.size+news.length≤cap*i.size:=by rw [hs.newsLen,←Nat.add_mul];exact dK _ q
    have hc:∀ j,j<news.length→(w.cell? ⟨g,off+n*i.size+j,none⟩).isSome=true:=fun j Q=>by
     have:=(o (n*i.size+j) (by omega)).1
     rw [aY];exact this
    have N:∀ j,j<news.length→w.frozen? ⟨g,off+n*i.size+j,none⟩=false:=fun j Q=>by
     have:=(o (n*i.size+j) (by omega)).2
     rw [aY];exact this
    have B:=run_append_room_src (P:=P) w t r ty e i D E g off n cap x m news hs q hc N
    have hw:=G.symm.trans B
    injection hw with hw _
    injection hw with hw _
    injection hw with hw
    injection hw with hw
    omega
   ·refine key (some ⟨g,off,none⟩) cap rfl (by omega) (run_firstCells_some w.drew i.size n ⟨g,off,none⟩ n cap xs J (fun j u hu => ?_))
    obtain ⟨Q,M⟩:=aF.1 hu
    rw [←M]
    rw [fc]
    exact I j Q
theorem oB {P:Program} {ops:Array Oper} {rest:List Oper} {o:Oper} {a:Act} {Q:Exit→Act→World→Prop} {w:World} (q:o.guard=none) (s x:Operand) (t j:TypeId)
  (B:o.op = .call {callee := .builtin .append,args:=#[s,x],argTypes:=#[t,j]})
  (base k:Nat) (e:TypeId) (i:TypeInfo) (z:Value) (C:P.underlying t=some (.slice e)) (D:P.info? e=some i) (E:i.zero=some z) (hk:i.size=k) (r:z.cells.size=i.size) (u:0<i.size)
  (v:Value) (n:Nat) (xs:List Value) (F:a.eval s=v) (l:OwnS w base k v n xs) (G:CellsOf w v e) (m:Nat) (news:List Value) (hs:Src P k j (a.eval x) m news w)
  (y:n+m≤maxLen) (b:(n+m)*i.bytes≤140737488355328) (d:base≤w.heap.size)
  (h:∀ v' w',OwnS w' base k v' (n+m) (xs++news)→w.grownBy w' v.ownBlock→CellsOf w' v' e→wpList P ops Q rest (a.put o.dst v') w'):wpList P ops Q (o::rest) a w:=by
 subst hk
 obtain ⟨v',w',I,h1,h2,h3⟩:=jr (P:=P) w base t j o.type e i z C D E r u v n xs l G (a.eval x) m news hs y b d
 refine ff q fun K hK => ?_
 unfold Oper.wp execOp
 simp only [B,resolve,invoke,builtin,ck,fe,bZ,eu,bg,di,F,I]
 exact hK _ _ (h v' w' h1 h2 h3)
theorem ki {F:Fence} (hF:∀ f,F.fn f) {nF:Nat} {P:Program} {ops:Array Oper} {rest:List Oper} {o:Oper} {a:Act} {Q:Exit→Act→World→Prop} {w:World} (q:o.guard=none) (s x:Operand) (t j:TypeId)
  (r:o.op = .call {callee := .builtin .append,args:=#[s,x],argTypes:=#[t,j]})
  (base k:Nat) (e:TypeId) (i:TypeInfo) (z:Value) (C:P.underlying t=some (.slice e)) (D:P.info? e=some i) (E:i.zero=some z) (hk:i.size=k) (u:z.cells.size=i.size) (y:0<i.size)
  (v:Value) (n:Nat) (xs:List Value) (G:a.eval s=v) (l:OwnS w base k v n xs) (I:CellsOf w v e) (m:Nat) (news:List Value) (hs:Src P k j (a.eval x) m news w)
  (B:n+m≤maxLen) (b:(n+m)*i.bytes≤140737488355328) (d:base≤w.heap.size)
  (h:∀ v' w',OwnS w' base k v' (n+m) (xs++news)→w.grownBy w' v.ownBlock→CellsOf w' v' e→wpListIn F nF P ops Q rest (a.put o.dst v') w'):wpListIn F nF P ops Q (o::rest) a w:=by
 subst hk
 obtain ⟨v',w',J,h1,h2,h3⟩:=jr (P:=P) w base t j o.type e i z C D E u y v n xs l I (a.eval x) m news hs B b d
 refine wpListIn_plain q fun K hK => ?_
 unfold Oper.wpIn
 refine ⟨fun f _=>hF f,?_⟩
 rw [Oper.semAt_eq _ _ _ (fun c hc=>by rw [r] at hc;cases hc)]
 unfold execOp
 simp only [r,resolve,invoke,builtin,ck,fe,bZ,eu,bg,di,G,J]
 exact hK _ _ (h v' w' h1 h2 h3)
theorem qq {P:Program} {o:Oper} {a:Act} {K:Act→World→Prop} {Q:Exit→Act→World→Prop} {w:World} (s x:Operand) (t j:TypeId)
  (y:o.op = .call {callee := .builtin .append,args:=#[s,x],argTypes:=#[t,j]})
  (base k:Nat) (e:TypeId) (i:TypeInfo) (z:Value) (B:P.underlying t=some (.slice e)) (C:P.info? e=some i) (D:i.zero=some z) (hk:i.size=k) (q:z.cells.size=i.size) (r:0<i.size)
  (v:Value) (n:Nat) (xs:List Value) (E:a.eval s=v) (l:OwnS w base k v n xs) (F:CellsOf w v e) (m:Nat) (news:List Value) (hs:Src P k j (a.eval x) m news w)
  (u:n+m≤maxLen) (b:(n+m)*i.bytes≤140737488355328) (d:base≤w.heap.size)
  (h:∀ v' w',OwnS w' base k v' (n+m) (xs++news)→w.grownBy w' v.ownBlock→CellsOf w' v' e→K (a.put o.dst v') w'):o.wp P a w K Q:=by
 subst hk
 obtain ⟨v',w',G,h1,h2,h3⟩:=jr (P:=P) w base t j o.type e i z B C D q r v n xs l F (a.eval x) m news hs u b d
 unfold Oper.wp execOp
 simp only [y,resolve,invoke,builtin,ck,fe,bZ,eu,bg,di,E,G]
 exact h v' w' h1 h2 h3
end Go.Proofs.YtkkfmkhbdoeglaaGreatDoor
namespace Go.Proofs.YtkkfmkhbdoeglaaGreatDoor
open Go.RowKit
theorem CellsOf.alloc {w:World} {v:Value} {e:TypeId} (h:CellsOf w v e) (o:Obj):CellsOf (w.alloc o) v e:=fun b d=>by
 obtain ⟨C,fz,i⟩:=h b d
 exact ⟨C,fz,fG w o i⟩
theorem CellsOf.nil (w:World) (e:TypeId):CellsOf w (.slice none 0 0) e:=fun b d=>by simp [Value.ownBlock] at d
theorem jL {ops:Array Oper} {rest:List Oper} {o:Oper} {a:Act} {Q:Exit→Act→World→Prop} {w:World} (j:o.guard=none) (s x:Operand)
  (u:o.op = .call {callee := .builtin .append,args:=#[s,x],argTypes:=#[59,59]})
  (base:Nat) (v:Value) (n:Nat) (l:List UInt8) (y:a.eval s=v) (d:OwnS w base 1 v n (u8s l)) (B:CellsOf w v 5) (m:List UInt8) (hs:BytesAt w (a.eval x) m)
  (hlen:n+m.length≤140737488355328) (b:base≤w.heap.size)
  (h:∀ v' w',OwnS w' base 1 v' (n+m.length) (u8s (l++m))→w.grownBy w' v.ownBlock→CellsOf w' v' 5→Below base w w'→
   wpList Tryz.prog ops Q rest (a.put o.dst v') w'):wpList Tryz.prog ops Q (o::rest) a w:=by
 obtain ⟨i0,C,q,i,r⟩:=dP oY
 have hmx:maxLen=9223372036854775807:=rfl
 refine oB j s x _ _ u base 1 5 i0 (.int .u8 0) Tryz.underlying59 C q i (by rw [i];rfl) (by omega) v n (u8s l) y d B m.length (u8s m) (fH.src Tryz.underlying59 hs (mY m)) (by omega) (by rw [r];omega) b (fun v' w' h1 h2 h3 => ?_)
 rw [←jE] at h1
 exact h v' w' h1 h2 h3 (gU d h2 b)
theorem sD (base:Nat) (bv:Value) (l:List UInt8) (v:Nat) (w:World) (s:OwnS w base 1 bv l.length (u8s l)) (D:CellsOf w bv 5) (C:base≤w.heap.size) (hl:l.length≤fX) (_hv:v<18446744073709551616) :
  Calls Tryz.prog 113 #[bv,.int .u64 v] w fun e w'=>∃ d,e = .returned d∧OwnS w' base 1 d (l.length+8) (u8s (l++j4 v))∧CellsOf w' d 5∧Below base w w':=by
 unfold fX at hl
 go_enter Tryz.func113,Tryz.ntmps113
 go_wp2
 go_loopw [0,6] (fun x i wr=>∃ k:Nat,k≤8∧i = .int .i64 k∧OwnS wr base 1 x (l++(j4 v).take k).length (u8s (l++(j4 v).take k))∧CellsOf wr x 5∧Below base w wr) (fun _ i _=>8-(intOf i).toNat)
 case atStart=>exact ⟨0,by omega,rfl,by simpa using s,D,Below.refl _ _⟩
 case round =>
  obtain ⟨k,hk,rfl,b,q,j⟩:=hrel
  have r:=ab q
  clear q
  by_cases h8:k<8
  ·have u:((UInt8.ofNat (v / 2^(56-8*k))).toNat:Int)=(v:Int) / 2^(56-8*k)%256:=by simp
   have m:=o5 wr (UInt8.ofNat (v / 2^(56-8*k)))
   rw [u] at m
   have E:=j.size
   have H:=ab (yI v k h8)
   have I:=ab u
   clear u
   have F:(k:Int)<8:=by omega
   have G:(l++(j4 v).take k).length≤140737488355100:=by rw [aq,aD,fQ];omega
   go_wp2_with (at_builtin;refine jL rfl (.tmp 9) (.tmp 16) rfl base _ _ (l++(j4 v).take k) rfl (b.below ((Below.refl _ wr).alloc (af _) _)) (r.out.alloc _) [UInt8.ofNat (v / 2^(56-8*k))] m (by simp only [ar,aM];omega) (by simp;omega) ?_;intro v1 w1 o _ y B)
   go_roundw
   case rel =>
    refine ⟨k+1,by omega,by go_num,?_,y,(j.alloc (by omega) _).trans B⟩
    rw [H.out,←bq]
    rw [aq]
    exact o
   case measure=>simp [intOf];omega
  ·obtain rfl:k=8:=by omega
   rw [aS (by rw [fQ];omega)] at b
   go_wp2
   go_ret
   refine ⟨_,rfl,?_,r.out,j⟩
   rw [aq,fQ] at b
   exact b
theorem kx {ops:Array Oper} {o:Oper} {a:Act} {K:Act→World→Prop} {Q:Exit→Act→World→Prop} {E:Prop} {w:World} (j:o.guard=none) (s x:Operand)
  (u:o.op = .call {callee := .builtin .append,args:=#[s,x],argTypes:=#[59,59]})
  (base:Nat) (v:Value) (n:Nat) (l:List UInt8) (y:a.eval s=v) (d:OwnS w base 1 v n (u8s l)) (B:CellsOf w v 5) (m:List UInt8) (hs:BytesAt w (a.eval x) m)
  (hlen:n+m.length≤140737488355328) (b:base≤w.heap.size)
  (h:∀ v' w',OwnS w' base 1 v' (n+m.length) (u8s (l++m))→w.grownBy w' v.ownBlock→CellsOf w' v' 5→Below base w w'→
   K (a.put o.dst v') w'):if Region.wanted o (yielded ops a.tmps)=true then Oper.wp Tryz.prog o a w K Q else E:=by
 have hw:Region.wanted o (yielded ops a.tmps)=true:=by simp [Region.wanted,j]
 rw [aB hw]
 obtain ⟨i0,C,q,i,r⟩:=dP oY
 have hmx:maxLen=9223372036854775807:=rfl
 refine qq s x _ _ u base 1 5 i0 (.int .u8 0) Tryz.underlying59 C q i (by rw [i];rfl) (by omega) v n (u8s l) y d B m.length (u8s m) (fH.src Tryz.underlying59 hs (mY m)) (by omega) (by rw [r];omega) b (fun v' w' h1 h2 h3 => ?_)
 rw [←jE] at h1
 exact h v' w' h1 h2 h3 (gU d h2 b)
end Go.Proofs.YtkkfmkhbdoeglaaGreatDoor
namespace Go.Proofs.YtkkfmkhbdoeglaaGreatDoor
open Go.RowKit
structure HV where
 held:Value
 seen:Value
 late:Value
 left:Int
 fail:Int
 dead:Bool
 writes:Int
 r0:Int
 r1:Int
 r2:Int
 r:Nat
 log:Value
def HV.cells (x:HV):Array Value:=#[x.held,x.seen,x.late,.int .i64 x.left,.int .i64 x.fail,.bool x.dead,.int .i64 x.writes,.int .i64 x.r0,.int .i64 x.r1,.int .i64 x.r2,.map (some x.r),x.log]
def HostIs (w:World) (h:Nat) (x:HV):Prop:=w.heap[h]?=some (.cells x.cells 87)
def HV.stop (x:HV):HV := {x with left:=if 0<x.left then x.left-1 else x.left,dead:=x.dead || decide (x.left=0)}
def HV.room (x:HV):Nat→Int
 | 0=>x.r0
 | 1=>x.r1
 | _=>x.r2
theorem HostIs.fP {w w':World} {h:Nat} {x:HV} (b:HostIs w h x) (d:w'.heap[h]?=w.heap[h]?):HostIs w' h x:=d.trans b
theorem HostIs.lt {w:World} {h:Nat} {x:HV} (b:HostIs w h x):h<w.heap.size:=fw b
def strsV (l:List (List UInt8)):List Value:=l.map fun s => .string ⟨s.toArray⟩
theorem oI (l m:List (List UInt8)):strsV (l++m)=strsV l++strsV m:=bA
structure DpAt (w:World) (base h:Nat) (x:HV) (d:DpS):Prop where
 row:HostIs w h x
 left:x.left=d.left
 dead:x.dead=d.dead
 room:x.room=d.room
 tab:TabAt w x.r d.S
 own:OwnS w base 1 x.log d.log.length (strsV d.log)
 ltyp:CellsOf w x.log 9
 lo:base≤h∧base≤x.r
 lb : -1≤d.left∧d.left≤9223372036854775807
theorem nc (h:Nat) (x:HV) (w:World) (m:HostIs w h x) (lo : -1≤x.left) (B:x.left≤9223372036854775807) :
  Calls Tryz.prog 203 #[.pointer (some ⟨h,0,none⟩)] w fun e w'=>e = .returned (.bool x.stop.dead)∧HostIs w' h x.stop∧w'.heap.size=w.heap.size∧Ext (fun i=>i=h) w w':=by
 obtain ⟨a0,a1,a2,n,s,b,wr,r0,r1,r2,r,lv⟩:=x
 unfold HV.stop
 unfold HostIs HV.cells at m
 simp only at lo B m⊢
 have E:=ab m
 have c3:=ae _ _ 3 _ _ _ m
 have c5:=ae _ _ 5 _ _ _ m
 have f3:=aj _ _ 3 _ _ m
 have f5:=aj _ _ 5 _ _ m
 have D:=fw m
 have q:∀ v:Value,Hid ((w.setCell ⟨h,5,none⟩ v).heap[h]?=some (.cells #[a0,a1,a2,.int .i64 n,.int .i64 s,v,.int .i64 wr,.int .i64 r0,.int .i64 r1,.int .i64 r2,.map (some r),lv] 87)∧(w.setCell ⟨h,5,none⟩ v).heap.size=w.heap.size∧Ext (fun i=>i=h) w (w.setCell ⟨h,5,none⟩ v)) :=
  fun v=>ab ⟨heap_setCell _ _ 5 v m,size_setCell _ _ _,(Ext.refl _ w).setCell _ _ (.inl rfl)⟩
 have y:∀ v u:Value,Hid (((w.setCell ⟨h,5,none⟩ v).setCell ⟨h,3,none⟩ u).heap[h]?=some (.cells #[a0,a1,a2,u,.int .i64 s,v,.int .i64 wr,.int .i64 r0,.int .i64 r1,.int .i64 r2,.map (some r),lv] 87)∧((w.setCell ⟨h,5,none⟩ v).setCell ⟨h,3,none⟩ u).heap.size=w.heap.size∧Ext (fun i=>i=h) w ((w.setCell ⟨h,5,none⟩ v).setCell ⟨h,3,none⟩ u)) :=
  fun v u=>ab ⟨heap_setCell _ _ 3 u (q v).out.1,(size_setCell _ _ _).trans (q v).out.2.1,(q v).out.2.2.setCell _ _ (.inl rfl)⟩
 clear m
 go_enter Tryz.func203,Tryz.ntmps203
 cases b with
 | true =>
  rcases dO n 0 with o | o | o
  ·rw [au (by omega)]
   go_wp2
   go_ret
   obtain ⟨d,j,l⟩:=(q (.bool true)).out
   exact ⟨rfl,d,j,l⟩
  ·subst o
   go_wp2
   go_ret
   obtain ⟨d,j,l⟩:=(q (.bool true)).out
   exact ⟨rfl,d,j,l⟩
  ·rw [aB o]
   go_wp2
   go_ret
   obtain ⟨d,j,l⟩:=(y (.bool true) (.int .i64 (n-1))).out
   exact ⟨rfl,d,j,l⟩
 | false =>
  rcases dO n 0 with o | o | o
  ·have e:decide (n=0)=false:=by simp;omega
   have C:(n==0)=false:=by simp;omega
   rw [au (by omega),e]
   go_wp2
   go_ret
   obtain ⟨d,j,l⟩:=(q (.bool false)).out
   exact ⟨rfl,d,j,l⟩
  ·subst o
   go_wp2
   go_ret
   obtain ⟨d,j,l⟩:=(q (.bool true)).out
   exact ⟨rfl,d,j,l⟩
  ·have e:decide (n=0)=false:=by simp;omega
   have C:(n==0)=false:=by simp;omega
   rw [aB o,e]
   go_wp2
   go_ret
   obtain ⟨d,j,l⟩:=(y (.bool false) (.int .i64 (n-1))).out
   exact ⟨rfl,d,j,l⟩
theorem xY (h:Nat) (x:HV) (t:Int) (w:World) (j:HostIs w h x) :
  Calls Tryz.prog 207 #[.agg #[.pointer (some ⟨h,0,none⟩)],.int .i64 t] w fun e w'=>e = .returned (.int .i64 (if 0≤t∧t<3 then x.room t.toNat else 0))∧Below w.heap.size w w':=by
 have b:Below w.heap.size w (w.alloc (.cells #[.pointer (some ⟨h,0,none⟩)] 189)):=(Below.refl _ w).alloc (af _) _
 have l:=fA w (.cells #[.pointer (some ⟨h,0,none⟩)] 189)
 have rc:=ae _ _ 0 _ _ _ l
 have m:=fw j
 have d:=j.fP (b.block h m)
 unfold HostIs HV.cells at d
 have o:=ae _ _ 7 _ _ _ d
 have q:=ae _ _ 8 _ _ _ d
 have r:=ae _ _ 9 _ _ _ d
 have i:=ab b
 clear j d l b
 go_enter Tryz.func207,Tryz.ntmps207
 by_cases s:t<0
 ·rw [au (by omega)]
  go_wp2
  go_ret
  exact ⟨rfl,i.out⟩
 ·by_cases h3:3≤t
  ·rw [au (by omega)]
   go_wp2
   go_ret
   exact ⟨rfl,i.out⟩
  ·rw [aB (by omega)]
   obtain rfl | rfl | rfl:t=0∨t=1∨t=2:=by omega
   ·go_wp2
    go_ret
    exact ⟨rfl,i.out⟩
   ·go_wp2
    go_ret
    exact ⟨rfl,i.out⟩
   ·go_wp2
    go_ret
    exact ⟨rfl,i.out⟩
theorem yq (h:Nat) (x:HV) (S:List E) (t:Int) (w:World) (V:HostIs w h x) (o:TabAt w x.r S) (hl:S.length≤1000000000) :
  Calls Tryz.prog 209 #[.agg #[.pointer (some ⟨h,0,none⟩)],.int .i64 t] w fun e w'=>e = .returned (.int .i64 (countS t S:Nat))∧Below w.heap.size w w':=by
 obtain ⟨r,Z⟩:∃ r,r=x.r:=⟨_,rfl⟩
 have C:Below w.heap.size w (w.alloc (.cells #[.pointer (some ⟨h,0,none⟩)] 189)):=(Below.refl _ w).alloc (af _) _
 have R0:=fA w (.cells #[.pointer (some ⟨h,0,none⟩)] 189)
 have rc:=ae _ _ 0 _ _ _ R0
 have ag:=fw V
 have W:=V.fP (C.block h ag)
 unfold HostIs HV.cells at W
 have O:=ae _ _ 10 _ _ _ W
 simp only [bR,aX,bB] at O
 rw [←Z] at O o
 have a6:=o.lt
 obtain ⟨Q,L,X,hp⟩:=o.fP (C.block r o.lt)
 have Y:=ab hp
 have HN:=ab Q.nodup
 have al:(w.alloc (.cells #[.pointer (some ⟨h,0,none⟩)] 189)).heap.size=w.heap.size+1:=by simp
 clear Q hp o V W R0 Z
 go_enter Tryz.func209,Tryz.ntmps209
 go_wp2_with (first | (refine kv rfl _ rfl Tryz.underlying85 rfl X ?_;intro w1 D am a7) | fail)
 rw [al] at D⊢
 try go_frame
 go_loopw [5] (fun n wr=>∃ l:List E,fU wr r (w.heap.size+1) L (l.map zS)∧n = .int .i64 (countS t l:Nat)∧Below w.heap.size w wr) (fun _ wr=>wr.rangeLeft r (w.heap.size+1))
 case atStart=>exact ⟨[],D,rfl,C.trans (am.mono (by omega))⟩
 case round =>
  obtain ⟨l,d,rfl,s⟩:=hrel
  go_wp2_with (first | (refine kZ rfl _ rfl rfl d ?_ ?_) | fail)
  ·intro ap
   have av:=ab (sw t (qR (k9 d.sub.2.2) HN.out (ap.trans Y.out)))
   go_wp2
   go_ret
   exact ⟨by rw [av.out];rfl,s⟩
  ·intro m B v w2 hx a0 F a1 a9 a2 ba
   obtain ⟨⟨k',N⟩,a3,e⟩:=az.1 (Y.out.mem_iff.1 hx)
   cases e
   have G:fU w2 r (w.heap.size+1) L ((l++[((m,B),N)]).map zS):=by rw [bA];exact F
   have bb:countS t l≤1000000000:=by
    have h1:countS t l≤l.length:=List.countP_le_length
    have h2:l.length≤S.length:=uq (k9 d.sub.2.2) (fun y hy=>uY (Y.out.mem_iff.1 (d.sub.1 _ (az.2 ⟨y,hy,rfl⟩))))
    omega
   have R:=ab (rY t l ((m,B),N))
   have i:=ab G
   have bc:=s.size
   have u:Below w.heap.size w w2:=s.grown a1 s.size (fun j e=>by cases e;exact dL _)
   have U:=ab d
   clear F G hx a0 a3 d
   unfold kc at a2
   by_cases o:m=t
   ·subst o
    have I:Hid (countS m (l++[((m,B),N)])=countS m l+1):=ab (by rw [R.out,aB rfl])
    go_wp2
    have b:Below w2.heap.size w2 (w2.alloc (.cells #[.int .i64 m,.string ⟨B.toArray⟩] 94)):=(Below.refl _ w2).alloc (af _) _
    have q:=i.out.frame (b.block _ i.out.lt.1) (b.block _ i.out.lt.2)
    have J:=q.left
    have M:=U.out.left
    simp only [aG,aq,ar,aM] at J M
    exact ⟨⟨_,q,by rw [I.out];rfl,u.trans (b.mono u.size)⟩,by omega⟩
   ·have I:Hid (countS t (l++[((m,B),N)])=countS t l):=ab (by rw [R.out,au o];rfl)
    go_wp2
    have b:Below w2.heap.size w2 (w2.alloc (.cells #[.int .i64 m,.string ⟨B.toArray⟩] 94)):=(Below.refl _ w2).alloc (af _) _
    have q:=i.out.frame (b.block _ i.out.lt.1) (b.block _ i.out.lt.2)
    have J:=q.left
    have M:=U.out.left
    simp only [aG,aq,ar,aM] at J M
    exact ⟨⟨_,q,by rw [I.out],u.trans (b.mono u.size)⟩,by omega⟩
end Go.Proofs.YtkkfmkhbdoeglaaGreatDoor
namespace Go.Proofs.YtkkfmkhbdoeglaaGreatDoor
open Go.RowKit
def fM (os:List OpB):List Value:=os.flatMap fun o=>[.int .i64 o.kind,.int .i64 o.table,.string ⟨o.key.toArray⟩,.string ⟨o.val.toArray⟩]
theorem iX (os:List OpB):(fM os).length=os.length*4:=by
 induction os with
 | nil=>rfl
 | cons o os ih=>simp only [fM,cN,aq,ar,aM] at ih⊢;omega
theorem mF (os us:List OpB):fM (os++us)=fM os++fM us:=by simp [fM]
theorem mx:∀ (os:List OpB) (k:Nat) (h:k<os.length),
  (fM os)[k*4]?=some (.int .i64 os[k].kind)∧(fM os)[k*4+1]?=some (.int .i64 os[k].table)∧(fM os)[k*4+2]?=some (.string ⟨os[k].key.toArray⟩)∧(fM os)[k*4+3]?=some (.string ⟨os[k].val.toArray⟩)
 | o::os,0,h=>⟨rfl,rfl,rfl,rfl⟩
 | o::os,k+1,h=>by
  have ih:=mx os k (by simpa using h)
  have e:∀ j,(k+1)*4+j=4+(k*4+j):=fun j=>by omega
  have b:∀ j,(fM (o::os))[4+j]?=(fM os)[j]?:=fun j=>by
   rw [Nat.add_comm];rfl
  refine ⟨?_,?_,?_,?_⟩
  ·have:=e 0;simp only [cx] at this;rw [this,b];exact ih.1
  ·rw [e,b];exact ih.2.1
  ·rw [e,b];exact ih.2.2.1
  ·rw [e,b];exact ih.2.2.2
def iy (w:World) (v:Value) (os:List OpB):Prop:=fH w v 4 os.length (fM os)
theorem iy.opened {w:World} {v:Value} {os:List OpB} (h:iy w v os) :
  ∃ a cap,v = .slice a os.length cap∧os.length≤cap∧∀ k (h:k<os.length),∃ b off,a=some ⟨b,off,none⟩∧w.cell? ⟨b,off+k*4,none⟩=some (.int .i64 os[k].kind)∧w.cell? ⟨b,off+k*4+1,none⟩=some (.int .i64 os[k].table)∧w.cell? ⟨b,off+k*4+2,none⟩=some (.string ⟨os[k].key.toArray⟩)∧w.cell? ⟨b,off+k*4+3,none⟩=some (.string ⟨os[k].val.toArray⟩):=by
 obtain ⟨_,a,cap,rfl,hc,d⟩:=h
 refine ⟨a,cap,rfl,hc,fun k hk => ?_⟩
 have hl:=iX os
 obtain ⟨i,h1,h2,h3⟩:=mx os k hk
 obtain ⟨b,off,rfl,c0⟩:=d (k*4) (by omega)
 obtain ⟨o,q,j,c1⟩:=d (k*4+1) (by omega)
 cases j
 obtain ⟨r,s,l,c2⟩:=d (k*4+2) (by omega)
 cases l
 obtain ⟨u,x,m,c3⟩:=d (k*4+3) (by omega)
 cases m
 rw [aw (by omega)] at i h1 h2 h3
 refine ⟨b,off,rfl,?_,?_,?_,?_⟩
 ·rw [c0,i]
 ·rw [aY,c1,h1]
 ·rw [aY,c2,h2]
 ·rw [aY,c3,h3]
theorem iy.below {w w':World} {v:Value} {os:List OpB} (h:iy w v os) (b:Below w.heap.size w w'):iy w' v os:=fH.below h b
def jD (w:World) (base:Nat) (v:Value) (f:Option (Nat×Nat)):Prop:=∃ fp,v = .pointer fp∧tz w base fp f
theorem jD.new {W:World} {r:Value} (w:World) (base:Nat) (b d:Int) (k n:Nat) (hk:b=k) (i:d=n) (g:Nat) (j:g=w.heap.size) (h:base≤g) (l:r = .pointer (some ⟨g,0,none⟩)) (m:W=w.alloc (.cells #[.int .i64 b,.int .i64 d,.nilIface] 166)) :
  jD W base r (some (k,n)):=by
 subst hk i l m j
 exact ⟨_,rfl,w.heap.size,rfl,h,fA _ _⟩
def mB (os:List OpB):Prop:=∀ o∈os,o.key.length≤fX∧o.val.length≤fX
theorem yC (v:Nat) (l:Value) (os:List OpB) (w:World) (hs:iy w l os) (d:isVersionB v=false∨os.length<1∨8<os.length) :
  Calls Tryz.prog 98 #[.agg #[.int .u64 v,l]] w fun e w'=>(∃ r,e = .returned r∧jD w' w.heap.size r (gE v os))∧Below w.heap.size w w':=by
 obtain ⟨a,cap,rfl,o,-⟩:=hs.opened
 clear hs
 cases b:isVersionB v with
 | false =>
  have i:gE v os=some (4,0):=by unfold gE;rw [aB b]
  rw [i]
  clear i
  go_enter Tryz.func98,Tryz.ntmps98
  go_wp2_with (first
   | (go_at_call 100;refine (jn v _).mono ?_;rintro e w' ⟨rfl,rfl⟩;rw [b])
   | (go_at_call 85;refine (gd _ _ _).mono ?_;rintro e w' ⟨rfl,rfl⟩))
  go_ret
  refine ⟨⟨_,rfl,jD.new _ _ 4 0 4 0 rfl rfl (w.heap.size+1) (by simp) (by omega) rfl rfl⟩,?_⟩
  ·exact ((Below.refl _ w).alloc (af _) _).alloc (by simp) _
 | true =>
  have j:os.length<1∨8<os.length:=d.resolve_left (by rw [b];decide)
  have i:gE v os=some (5,0):=by unfold gE;rw [au (by rw [b];decide),aB j]
  rw [i]
  clear i d
  generalize os.length=n at *
  rcases j with j | j
  ·have m:(n:Int)<1:=by omega
   go_enter Tryz.func98,Tryz.ntmps98
   go_wp2_with (first
    | (go_at_call 100;refine (jn v _).mono ?_;rintro e w' ⟨rfl,rfl⟩;rw [b])
    | (go_at_call 85;refine (gd _ _ _).mono ?_;rintro e w' ⟨rfl,rfl⟩))
   go_ret
   refine ⟨⟨_,rfl,jD.new _ _ 5 0 5 0 rfl rfl (w.heap.size+1) (by simp) (by omega) rfl rfl⟩,?_⟩
   ·exact ((Below.refl _ w).alloc (af _) _).alloc (by simp) _
  ·have m:(8:Int)<n:=by omega
   have q:¬(n:Int)<1:=by omega
   go_enter Tryz.func98,Tryz.ntmps98
   go_wp2_with (first
    | (go_at_call 100;refine (jn v _).mono ?_;rintro e w' ⟨rfl,rfl⟩;rw [b])
    | (go_at_call 85;refine (gd _ _ _).mono ?_;rintro e w' ⟨rfl,rfl⟩))
   go_ret
   refine ⟨⟨_,rfl,jD.new _ _ 5 0 5 0 rfl rfl (w.heap.size+1) (by simp) (by omega) rfl rfl⟩,?_⟩
   ·exact ((Below.refl _ w).alloc (af _) _).alloc (by simp) _
end Go.Proofs.YtkkfmkhbdoeglaaGreatDoor
namespace Go.Proofs.YtkkfmkhbdoeglaaGreatDoor
open Go.RowKit
def gK (os:List OpB):List K:=os.map fun o=>(o.table,o.key)
theorem pc (os:List OpB) (k:Nat) (h:k<os.length):gK (os.take (k+1))=gK (os.take k)++[(os[k].table,os[k].key)]:=by
 unfold gK
 rw [aW h,bA]
 rfl
theorem ub (os:List OpB) (k:Nat) (h:k<os.length):fJ k (gK (os.take k)) (os.drop k) =
  if gX os[k] (gK (os.take k))=0 then fJ (k+1) (gK (os.take (k+1))) (os.drop (k+1)) else some (gX os[k] (gK (os.take k)),k):=by
 rw [cn h,pc os k h]
 rfl
theorem rS {b T:Int} {d i:List UInt8} {j:List K} (h:¬(b<1∨2<b∨T<0∨2<T)) (h1:gR T d=false):gX ⟨b,T,d,i⟩ j=7:=by
 unfold gX
 rw [au h,aB h1]
theorem qk {b T:Int} {d j:List UInt8} {i:List K} (h:¬(b<1∨2<b∨T<0∨2<T)) (h1:gR T d=true) (h2:i.contains (T,d)=true):gX ⟨b,T,d,j⟩ i=8:=by
 unfold gX
 rw [au h,h1,au (by decide),aB h2]
theorem sp {b T:Int} {d i:List UInt8} {j:List K} (h:¬(b<1∨2<b∨T<0∨2<T)) (h1:gR T d=true) (h2:j.contains (T,d)=false) (h3:oQ ⟨b,T,d,i⟩=false):gX ⟨b,T,d,i⟩ j=9:=by
 unfold gX
 rw [au h,h1,au (by decide),h2,au (by decide),aB h3]
theorem gw.fP {w w':World} {r:Nat} {b:List K} (h:gw w r b) (d:w'.heap[r]?=w.heap[r]?):gw w' r b:=fF.fP h d
theorem xc (v:Nat) (sv:Value) (os:List OpB) (w:World) (hs:iy w sv os) (hg:ShapesVar w) (bS:mB os) (hv:isVersionB v=true) (h1:1≤os.length) (h8:os.length≤8) :
  Calls Tryz.prog 98 #[.agg #[.int .u64 v,sv]] w fun e w'=>(∃ r,e = .returned r∧jD w' w.heap.size r (fJ 0 [] os))∧Below w.heap.size w w':=by
 have bx:=hs
 obtain ⟨a,cap,rfl,bX,hx⟩:=hs.opened
 clear hx hs
 have HS:=ab bx
 clear bx
 obtain ⟨n,hn⟩:∃ n,n=os.length:=⟨_,rfl⟩
 have HN:=ab hn
 have d0:¬(n:Int)<1:=by omega
 have d1:¬ 8<(n:Int):=by omega
 have d2:n≤8:=by omega
 have HS:Hid (iy w (.slice a n cap) os):=ab (by rw [hn];exact HS.out)
 rw [←hn]
 rw [←hn] at bX
 clear hn h1 h8
 have b8:∀ w,(Instr.makeMap 242 (some (.int .i64 (n:Int)))).run Tryz.prog w = .ok (.map (some w.heap.size)) (w.alloc (.map #[] 0)):=fun w=>by
  simp [Instr.makeMap,aL Tryz.underlying242,asInt,asIntOf,Result.andThen]
 go_enter Tryz.func98,Tryz.ntmps98
 go_wp2_with (go_at_call 100;refine (jn v _).mono ?_;rintro e w' ⟨rfl,rfl⟩;rw [hv])
 generalize a7:(w.alloc (.cells #[.int .u64 (v:Int),.slice a n cap] 34)).alloc (.map #[] 0)=w1
 have s1:w1.heap.size=w.heap.size+1+1:=by rw [←a7];simp
 have e1:Below w.heap.size w w1:=by rw [←a7];exact ((Below.refl _ w).alloc (af _) _).alloc (by simp) _
 have m1:gw w1 (w.heap.size+1) []:=by rw [←a7];have:=fF.new (w.alloc (.cells #[.int .u64 (v:Int),.slice a n cap] 34));simpa [gw] using this
 clear a7 b8
 have bk:=ab s1
 have bl:=ab m1
 clear s1 m1
 go_loopw [29] (fun i wr=>∃ k:Nat,k≤n∧i = .int .i64 k∧gw wr (w.heap.size+1) (gK (os.take k))∧Ext (fun j=>j=w.heap.size+1) w1 wr∧fJ 0 [] os=fJ k (gK (os.take k)) (os.drop k)) (fun i _=>n-(intOf i).toNat)
 case atStart=>exact ⟨0,by omega,rfl,bl.out,Ext.refl _ _,rfl⟩
 case round =>
  obtain ⟨k,hk,rfl,bz,a9,aa⟩:=hrel
  have m:Below w.heap.size w wr:=e1.trans (a9.below (by have:=bk.out;omega) (fun j hj e=>by omega))
  have d3:=a9.size
  by_cases cb:k<n
  ·have ba:k<os.length:=by rw [←HN.out];exact cb
   obtain ⟨a',cap',he,ce,hx⟩:=(iy.below HS.out m).opened
   cases he
   obtain ⟨b,off,rfl,c0,c1,c2,c3⟩:=hx k ba
   clear hx ce
   rw [ub os k ba] at aa
   have bD:=bS os[k] (cL ba)
   have bH:=ab (pc os k ba)
   obtain ⟨F,T,d,M,ho⟩:∃ F T d M,os[k]=⟨F,T,d,M⟩:=⟨_,_,_,_,rfl⟩
   rw [ho] at c0 c1 c2 c3 aa bD
   have HO:=ab ho
   have D:=ab aa
   have J:=ab bz
   clear ho aa bz
   obtain ⟨bI,cl⟩:=bD
   have c8:(k:Int)<os.length:=by omega
   have c9:(os.length:Int)≤8:=by omega
   have d4:=fE c0
   by_cases a5:F<1∨2<F∨T<0∨2<T
   ·have G:Hid (fJ 0 [] os=some (6,k)):=ab (by rw [D.out,gX,aB a5];rfl)
    have co:F<1∨(1≤F∧2<F)∨(1≤F∧F≤2∧T<0)∨(1≤F∧F≤2∧0≤T∧3≤T):=by omega
    clear a5
    rcases co with h1 | ⟨h1,h2⟩ | ⟨h1,h2,h3⟩ | ⟨h1,h2,h3,h4⟩
    all_goals
     go_wp2_with (go_at_call 85;refine (gd _ _ _).mono ?_;rintro e w' ⟨rfl,rfl⟩)
     go_ret
     rw [G.out]
     exact ⟨⟨_,rfl,jD.new _ _ 6 k 6 k rfl rfl (wr.heap.size+1) (by simp) (by have:=m.size;omega) rfl rfl⟩,((m.alloc m.size _).alloc (by simp;have:=m.size;omega) _)⟩
   ·skip
    obtain ⟨cp,ap,av⟩:(F=1∨F=2)∧0≤T∧T<3:=by omega
    clear a5
    have bL:ShapesVar wr:=hg.new m
    rcases cp with rfl | rfl
    ·go_wp2_with fail
     refine (nN T d _ (bL.alloc _) ap av bI).mono ?_
     rintro e w2 ⟨rfl,C⟩
     have cq:wr.heap.size+1≤w2.heap.size:=by simpa using C.size
     have N:Below w.heap.size w w2:=(m.alloc m.size (.cells #[.int .i64 1,.int .i64 T,.string ⟨d.toArray⟩,.string ⟨M.toArray⟩] 96)).trans (C.mono (by simp;have:=m.size;omega))
     have B2:=ab (fy C (by simp) (fA wr (.cells #[.int .i64 1,.int .i64 T,.string ⟨d.toArray⟩,.string ⟨M.toArray⟩] 96)))
     have M2:Hid (gw w2 (w.heap.size+1) (gK (os.take k))):=ab (gw.fP J.out ((C.block _ (by simp;have:=J.out.lt;omega)).trans (heap_alloc_old _ _ J.out.lt)))
     have X2:Ext (fun j=>j=w.heap.size+1) w1 w2:=(a9.alloc _).sK C
     cases O:gR T d with
     | false =>
      have G:Hid (fJ 0 [] os=some (7,k)):=ab (by rw [D.out,rS (by omega) O];rfl)
      go_wp2_with (go_at_call 85;refine (gd _ _ _).mono ?_;rintro e w' ⟨rfl,rfl⟩)
      go_ret
      rw [G.out]
      exact ⟨⟨_,rfl,jD.new _ _ 7 k 7 k rfl rfl w2.heap.size rfl (by have:=m.size;omega) rfl rfl⟩,N.alloc N.size _⟩
     | true =>
      have Q:=ab O
      clear O
      have hzero:∀ u:World,(zeroValue 3).run Tryz.prog u = .ok (.int .i64 0) u:=fun u=>by kernel_rfl
      obtain ⟨W1,st,hE,R,aE,cr,a0⟩:=fF.entry M2.out (mt:=242) (e:=3) (z := .int .i64 0) Tryz.underlying242 hzero (T,d)
      have L0:=fun n=>fF.lookup (w:=w2.drewN n) (fF.fP M2.out rfl) (mt:=242) (e:=3) (z := .int .i64 0) Tryz.underlying242 (hzero _) (T,d)
      have S:=fun n=>fF.lookup (w:=W1.drewN n) (fF.fP R rfl) (mt:=242) (e:=3) (z := .int .i64 0) Tryz.underlying242 (hzero _) (T,d)
      rw [kU] at S
      obtain ⟨cnt,s⟩:∃ cnt:Int,cnt=if (gK (os.take k)).contains (T,d) then 1 else 0:=⟨_,rfl⟩
      have a1:(mu (T,d) ((gK (os.take k)).map fun k=>(k,(Value.int .i64 1)))).getD (.int .i64 0) = .int .i64 cnt:=by rw [s];exact qO _ _
      obtain ⟨l,x,U,a2,cs⟩:=a0 (.int .i64 (cnt+1))
      have V:=fun n=>fF.lookup (w:=l.drewN n) (fF.fP U rfl) (mt:=242) (e:=3) (z := .int .i64 0) Tryz.underlying242 (hzero _) (T,d)
      rw [kU] at V
      simp only [a1,bF] at hE x L0 S V
      simp only [kV,iD,goInt] at hE x L0 S V
      have bb:=ab U
      have bl:=ab R
      clear R U a0 a1 hzero
      have ct:0≤cnt∧cnt≤1:=by rw [s];split <;> omega
      have W:=ab s
      clear s
      have b1:w2.cell? ⟨wr.heap.size,1,none⟩=some _:=ae _ _ 1 _ _ _ B2.out
      have b2:w2.cell? ⟨wr.heap.size,2,none⟩=some _:=ae _ _ 2 _ _ _ B2.out
      have cu:=J.out.lt
      have B3:=ab (carry aE B2.out (by omega))
      have I:=ab (carry a2 B3.out (by omega))
      have eb:W1.cell? ⟨wr.heap.size,1,none⟩=some _:=ae _ _ 1 _ _ _ B3.out
      have ec:W1.cell? ⟨wr.heap.size,2,none⟩=some _:=ae _ _ 2 _ _ _ B3.out
      have cv:l.cell? ⟨wr.heap.size,0,none⟩=some _:=ae _ _ 0 _ _ _ I.out
      have ed:l.cell? ⟨wr.heap.size,1,none⟩=some _:=ae _ _ 1 _ _ _ I.out
      have b6:l.cell? ⟨wr.heap.size,2,none⟩=some _:=ae _ _ 2 _ _ _ I.out
      have b7:l.cell? ⟨wr.heap.size,3,none⟩=some _:=ae _ _ 3 _ _ _ I.out
      have b3:=fw B2.out
      have b4:=fw B3.out
      have bw:=fw I.out
      have bo:=L0 1
      have br:=S 1
      have X:=V 1
      have bs:=hE 1
      have y:=x 1
      have E:∀ w:World,w.drewN 1=w.drew:=fun _=>rfl
      rw [E] at bo br X
      rw [E,E] at bs y
      clear L0 S V hE x E
      have XW:Ext (fun j=>j=w.heap.size+1) w1 l.drew:=((X2.grow aE (.inl rfl)).grow a2 (.inl rfl)).drew
      have B:Below w.heap.size w l.drew:=e1.trans (XW.below (by have:=bk.out;omega) (fun j hj e=>by omega))
      have Y:=B.size
      have bM:ShapesVar l.drew:=hg.new B
      have b5:w2.heap.size=l.heap.size:=by omega
      cases q:(gK (os.take k)).contains (T,d) with
      | true =>
       obtain rfl:cnt=1:=by rw [W.out,q];rfl
       simp only [Int.reduceAdd] at y X
       have G:Hid (fJ 0 [] os=some (8,k)):=ab (by rw [D.out,qk (by omega) Q.out q];rfl)
       clear q
       go_wp2
       go_region
       go_wp2_with (go_at_call 85;refine (gd _ _ _).mono ?_;rintro e w' ⟨rfl,rfl⟩)
       rename Ending.returned _=Ending.returned _=>hq
       cases hq
       go_ret
       rw [G.out]
       exact ⟨⟨_,rfl,jD.new l.drew _ 8 k 8 k rfl rfl l.heap.size rfl (by simpa using Y) rfl rfl⟩,B.alloc B.size _⟩
      | false =>
       obtain rfl:cnt=0:=by rw [W.out,q];rfl
       simp only [Int.reduceAdd] at y X
       have Z:=ab q
       clear q
       go_wp2
       go_region
       go_wp2_with fail
       refine (pC T M _ bM ap av cl).mono ?_
       rintro e w4 ⟨rfl,a3⟩
       have bN:=a3.size
       cases bc:gi T M with
       | false =>
        have G:Hid (fJ 0 [] os=some (9,k)):=ab (by rw [D.out,sp (by omega) Q.out Z.out (show oQ ⟨1,T,d,M⟩=false from bc)];rfl)
        clear bc
        go_wp2_with (go_at_call 85;refine (gd _ _ _).mono ?_;rintro e w' ⟨rfl,rfl⟩)
        go_ret
        rw [G.out]
        exact ⟨⟨_,rfl,jD.new _ _ 9 k 9 k rfl rfl w4.heap.size rfl (by simp at bN Y;omega) rfl rfl⟩,(B.trans (a3.mono Y)).alloc (by simp at bN Y;omega) _⟩
       | true =>
        have c4:=ab bc
        clear bc
        have B5:=ab (fy a3 (fw (b:=wr.heap.size) (w:=l.drew) I.out) (w:=l.drew) I.out)
        have d5:w4.cell? ⟨wr.heap.size,0,none⟩=some _:=ae _ _ 0 _ _ _ B5.out
        have c6:=fw B5.out
        go_wp2
        go_roundw
        case rel =>
         have e1:=pF (T,d) (gK (os.take k)) Z.out
         refine ⟨k+1,by omega,by go_num,?_,(XW.sK a3),?_⟩
         ·rw [bH.out,HO.out]
          have hm:=bb.out
          unfold gw
          rw [←e1]
          exact fF.fP hm (a3.block _ (by have:=bb.out.lt;simpa using this))
         ·rw [D.out,kD (o:=⟨1,T,d,M⟩) (.inl rfl) ap av Q.out Z.out c4.out]
          rfl
        case measure=>simp [intOf];omega
    ·go_wp2_with fail
     refine (nN T d _ (bL.alloc _) ap av bI).mono ?_
     rintro e w2 ⟨rfl,C⟩
     have cq:wr.heap.size+1≤w2.heap.size:=by simpa using C.size
     have N:Below w.heap.size w w2:=(m.alloc m.size (.cells #[.int .i64 2,.int .i64 T,.string ⟨d.toArray⟩,.string ⟨M.toArray⟩] 96)).trans (C.mono (by simp;have:=m.size;omega))
     have B2:=ab (fy C (by simp) (fA wr (.cells #[.int .i64 2,.int .i64 T,.string ⟨d.toArray⟩,.string ⟨M.toArray⟩] 96)))
     have M2:Hid (gw w2 (w.heap.size+1) (gK (os.take k))):=ab (gw.fP J.out ((C.block _ (by simp;have:=J.out.lt;omega)).trans (heap_alloc_old _ _ J.out.lt)))
     have X2:Ext (fun j=>j=w.heap.size+1) w1 w2:=(a9.alloc _).sK C
     cases O:gR T d with
     | false =>
      have G:Hid (fJ 0 [] os=some (7,k)):=ab (by rw [D.out,rS (by omega) O];rfl)
      go_wp2_with (go_at_call 85;refine (gd _ _ _).mono ?_;rintro e w' ⟨rfl,rfl⟩)
      go_ret
      rw [G.out]
      exact ⟨⟨_,rfl,jD.new _ _ 7 k 7 k rfl rfl w2.heap.size rfl (by have:=m.size;omega) rfl rfl⟩,N.alloc N.size _⟩
     | true =>
      have Q:=ab O
      clear O
      have hzero:∀ u:World,(zeroValue 3).run Tryz.prog u = .ok (.int .i64 0) u:=fun u=>by kernel_rfl
      obtain ⟨W1,st,hE,R,aE,cr,a0⟩:=fF.entry M2.out (mt:=242) (e:=3) (z := .int .i64 0) Tryz.underlying242 hzero (T,d)
      have L0:=fun n=>fF.lookup (w:=w2.drewN n) (fF.fP M2.out rfl) (mt:=242) (e:=3) (z := .int .i64 0) Tryz.underlying242 (hzero _) (T,d)
      have S:=fun n=>fF.lookup (w:=W1.drewN n) (fF.fP R rfl) (mt:=242) (e:=3) (z := .int .i64 0) Tryz.underlying242 (hzero _) (T,d)
      rw [kU] at S
      obtain ⟨cnt,s⟩:∃ cnt:Int,cnt=if (gK (os.take k)).contains (T,d) then 1 else 0:=⟨_,rfl⟩
      have a1:(mu (T,d) ((gK (os.take k)).map fun k=>(k,(Value.int .i64 1)))).getD (.int .i64 0) = .int .i64 cnt:=by rw [s];exact qO _ _
      obtain ⟨l,x,U,a2,cs⟩:=a0 (.int .i64 (cnt+1))
      have V:=fun n=>fF.lookup (w:=l.drewN n) (fF.fP U rfl) (mt:=242) (e:=3) (z := .int .i64 0) Tryz.underlying242 (hzero _) (T,d)
      rw [kU] at V
      simp only [a1,bF] at hE x L0 S V
      simp only [kV,iD,goInt] at hE x L0 S V
      have bb:=ab U
      have bl:=ab R
      clear R U a0 a1 hzero
      have ct:0≤cnt∧cnt≤1:=by rw [s];split <;> omega
      have W:=ab s
      clear s
      have b1:w2.cell? ⟨wr.heap.size,1,none⟩=some _:=ae _ _ 1 _ _ _ B2.out
      have b2:w2.cell? ⟨wr.heap.size,2,none⟩=some _:=ae _ _ 2 _ _ _ B2.out
      have cu:=J.out.lt
      have B3:=ab (carry aE B2.out (by omega))
      have I:=ab (carry a2 B3.out (by omega))
      have eb:W1.cell? ⟨wr.heap.size,1,none⟩=some _:=ae _ _ 1 _ _ _ B3.out
      have ec:W1.cell? ⟨wr.heap.size,2,none⟩=some _:=ae _ _ 2 _ _ _ B3.out
      have cv:l.cell? ⟨wr.heap.size,0,none⟩=some _:=ae _ _ 0 _ _ _ I.out
      have ed:l.cell? ⟨wr.heap.size,1,none⟩=some _:=ae _ _ 1 _ _ _ I.out
      have b6:l.cell? ⟨wr.heap.size,2,none⟩=some _:=ae _ _ 2 _ _ _ I.out
      have b7:l.cell? ⟨wr.heap.size,3,none⟩=some _:=ae _ _ 3 _ _ _ I.out
      have b3:=fw B2.out
      have b4:=fw B3.out
      have bw:=fw I.out
      have bo:=L0 1
      have br:=S 1
      have X:=V 1
      have bs:=hE 1
      have y:=x 1
      have E:∀ w:World,w.drewN 1=w.drew:=fun _=>rfl
      rw [E] at bo br X
      rw [E,E] at bs y
      clear L0 S V hE x E
      have XW:Ext (fun j=>j=w.heap.size+1) w1 l.drew:=((X2.grow aE (.inl rfl)).grow a2 (.inl rfl)).drew
      have B:Below w.heap.size w l.drew:=e1.trans (XW.below (by have:=bk.out;omega) (fun j hj e=>by omega))
      have Y:=B.size
      have bM:ShapesVar l.drew:=hg.new B
      have b5:w2.heap.size=l.heap.size:=by omega
      cases q:(gK (os.take k)).contains (T,d) with
      | true =>
       obtain rfl:cnt=1:=by rw [W.out,q];rfl
       simp only [Int.reduceAdd] at y X
       have G:Hid (fJ 0 [] os=some (8,k)):=ab (by rw [D.out,qk (by omega) Q.out q];rfl)
       clear q
       go_wp2
       go_region
       go_wp2_with (go_at_call 85;refine (gd _ _ _).mono ?_;rintro e w' ⟨rfl,rfl⟩)
       rename Ending.returned _=Ending.returned _=>hq
       cases hq
       go_ret
       rw [G.out]
       exact ⟨⟨_,rfl,jD.new l.drew _ 8 k 8 k rfl rfl l.heap.size rfl (by simpa using Y) rfl rfl⟩,B.alloc B.size _⟩
      | false =>
       obtain rfl:cnt=0:=by rw [W.out,q];rfl
       simp only [Int.reduceAdd] at y X
       have Z:=ab q
       clear q
       go_wp2
       go_region
       by_cases bd:M=[]
       ·subst bd
        go_wp2
        go_roundw
        case rel =>
         have e1:=pF (T,d) (gK (os.take k)) Z.out
         refine ⟨k+1,by omega,by go_num,?_,XW,?_⟩
         ·rw [bH.out,HO.out]
          have hm:=bb.out
          unfold gw
          rw [←e1]
          exact fF.fP hm rfl
         ·rw [D.out,kD (o:=⟨2,T,d,[]⟩) (.inr rfl) ap av Q.out Z.out rfl]
          rfl
        case measure=>simp [intOf];omega
       ·have G:Hid (fJ 0 [] os=some (9,k)):=ab (by rw [D.out,sp (by omega) Q.out Z.out (by simpa [oQ] using bd)];rfl)
        obtain ⟨vx,vs,rfl⟩:=List.exists_cons_of_ne_nil bd
        clear bd
        go_wp2_with (go_at_call 85;refine (gd _ _ _).mono ?_;rintro e w' ⟨rfl,rfl⟩)
        rename Ending.returned _=Ending.returned _=>hq
        cases hq
        go_ret
        rw [G.out]
        exact ⟨⟨_,rfl,jD.new l.drew _ 9 k 9 k rfl rfl l.heap.size rfl (by simpa using Y) rfl rfl⟩,B.alloc B.size _⟩
  ·have bO:k=n:=by omega
   have HF:Hid (fJ 0 [] os=none):=ab (by rw [aa,bO,HN.out,List.drop_length];rfl)
   have d6:¬(k:Int)<n:=by omega
   clear aa bO
   go_wp2
   go_ret
   rw [HF.out]
   exact ⟨⟨_,rfl,none,rfl,rfl⟩,m⟩
end Go.Proofs.YtkkfmkhbdoeglaaGreatDoor
namespace Go.Proofs.YtkkfmkhbdoeglaaGreatDoor
open Go.RowKit
theorem sg (v:Nat) (d:Value) (os:List OpB) (w:World) (hs:iy w d os) (l:ShapesVar w) (i:mB os) :
  Calls Tryz.prog 98 #[.agg #[.int .u64 v,d]] w fun e w'=>(∃ r,e = .returned r∧jD w' w.heap.size r (gE v os))∧Below w.heap.size w w':=by
 by_cases b:isVersionB v=false∨os.length<1∨8<os.length
 ·exact yC v d os w hs b
 ·have j:isVersionB v=true:=by cases h:isVersionB v with | true=>rfl | false=>exact absurd (.inl h) b
  have h1:1≤os.length:=by omega
  have h8:os.length≤8:=by omega
  have e:gE v os=fJ 0 [] os:=by unfold gE;rw [au (by rw [j];decide),au (by omega)]
  rw [e]
  exact xc v d os w hs l i j h1 h8
end Go.Proofs.YtkkfmkhbdoeglaaGreatDoor
namespace Go.Proofs.YtkkfmkhbdoeglaaGreatDoor
open Go.RowKit
theorem EK:(Tryz.prog.info? 96).map (fun i=>(i.zero,i.size,i.bytes))=some (some (.agg #[.int .i64 0,.int .i64 0,.string ⟨#[]⟩,.string ⟨#[]⟩]),4,48):=by kernel_rfl
theorem zG (os:List OpB):∀ u∈fM os,u.oneCell'=true:=by
 intro u hu
 unfold fM at hu
 rw [List.mem_flatMap] at hu
 obtain ⟨o,_,hu⟩:=hu
 simp only [aT,List.not_mem_nil,or_false] at hu
 rcases hu with rfl | rfl | rfl | rfl <;> rfl
theorem uR (w:World) (o:OpB):iy (w.alloc (.cells #[.int .i64 o.kind,.int .i64 o.table,.string ⟨o.key.toArray⟩,.string ⟨o.val.toArray⟩] 96)) (.slice (some ⟨w.heap.size,0,none⟩) 1 1) [o] :=
 (OwnS.new w #[.int .i64 o.kind,.int .i64 o.table,.string ⟨o.key.toArray⟩,.string ⟨o.val.toArray⟩] 96 0 0 0 4 1 1 (aK _) (by omega) (by decide) (by simp) (.inl (by omega))).sliceAt
theorem iy.src {w:World} {v:Value} {os:List OpB} (h:iy w v os):Src Tryz.prog 4 32 v os.length (fM os) w:=fH.src Tryz.underlying32 h (zG os)
theorem yW {w w':World} {k n:Nat} {v v':Value} {news:List Value}
  (h3:(∃ g off cap,v = .slice (some ⟨g,off,none⟩) n cap∧v' = .slice (some ⟨g,off,none⟩) (n+k) cap∧w'=w.setCells g (off+n*4) news)∨v' = .slice none 0 0∨∃ cap,v' = .slice (some ⟨w.heap.size,0,none⟩) (n+k) cap∧Below w.heap.size w w') :
  ∀ b,b<w.heap.size→v.ownBlock≠some b→v'.ownBlock≠some b:=by
 intro b i d
 rcases h3 with ⟨g,off,cap,rfl,rfl,_⟩ | rfl | ⟨cap,rfl,_⟩
 ·exact d
 ·simp [Value.ownBlock]
 ·simp [Value.ownBlock];omega
theorem sP {ops:Array Oper} {o:Oper} {a:Act} {K:Act→World→Prop} {Q:Exit→Act→World→Prop} {E:Prop} {w:World} (l:o.guard=none) (s x:Operand)
  (r:o.op = .call {callee := .builtin .append,args:=#[s,x],argTypes:=#[32,32]})
  (base:Nat) (v:Value) (os:List OpB) (u:a.eval s=v) (i:OwnS w base 4 v os.length (fM os)) (us:List OpB) (hs:iy w (a.eval x) us)
  (hlen:os.length+us.length≤2932031007402) (d:base≤w.heap.size)
  (h:∀ v' w',OwnS w' base 4 v' (os++us).length (fM (os++us))→w.grownBy w' v.ownBlock→Below base w w'→(∀ b,b<w.heap.size→v.ownBlock≠some b→v'.ownBlock≠some b)→
   K (a.put o.dst v') w'):if Region.wanted o (yielded ops a.tmps)=true then Oper.wp Tryz.prog o a w K Q else E:=by
 have hw:Region.wanted o (yielded ops a.tmps)=true:=by simp [Region.wanted,l]
 rw [aB hw]
 obtain ⟨i0,y,m,j,q⟩:=dP EK
 have hmx:maxLen=9223372036854775807:=rfl
 refine mX s x _ _ r base 4 96 i0 _ Tryz.underlying32 y m j (by rw [j];rfl) (by omega) v os.length (fM os) u i us.length (fM us) hs.src (by omega) (by rw [q];omega) d (fun v' w' h1 h2 h3 => ?_)
 rw [←mF,←aq] at h1
 exact h v' w' h1 h2 (gU i h2 d) (yW h3)
theorem ji {ops:Array Oper} {rest:List Oper} {o:Oper} {a:Act} {Q:Exit→Act→World→Prop} {w:World} (l:o.guard=none) (s x:Operand)
  (r:o.op = .call {callee := .builtin .append,args:=#[s,x],argTypes:=#[32,32]})
  (base:Nat) (v:Value) (os:List OpB) (u:a.eval s=v) (i:OwnS w base 4 v os.length (fM os)) (us:List OpB) (hs:iy w (a.eval x) us)
  (hlen:os.length+us.length≤2932031007402) (d:base≤w.heap.size)
  (h:∀ v' w',OwnS w' base 4 v' (os++us).length (fM (os++us))→w.grownBy w' v.ownBlock→Below base w w'→(∀ b,b<w.heap.size→v.ownBlock≠some b→v'.ownBlock≠some b)→
   wpList Tryz.prog ops Q rest (a.put o.dst v') w'):wpList Tryz.prog ops Q (o::rest) a w:=by
 obtain ⟨i0,y,m,j,q⟩:=dP EK
 have hmx:maxLen=9223372036854775807:=rfl
 refine jJ l s x _ _ r base 4 96 i0 _ Tryz.underlying32 y m j (by rw [j];rfl) (by omega) v os.length (fM os) u i us.length (fM us) hs.src (by omega) (by rw [q];omega) d (fun v' w' h1 h2 h3 => ?_)
 rw [←mF,←aq] at h1
 exact h v' w' h1 h2 (gU i h2 d) (yW h3)
theorem OwnS.shape {w:World} {base k:Nat} {v:Value} {n:Nat} {xs:List Value} (h:OwnS w base k v n xs):∃ a cap,v = .slice a n cap:=by
 obtain ⟨_,⟨rfl,rfl⟩ | ⟨g,off,cap,rfl,_⟩⟩:=h
 ·exact ⟨none,0,rfl⟩
 ·exact ⟨_,cap,rfl⟩
theorem OwnS.ops {w:World} {base:Nat} {v:Value} {os:List OpB} (h:OwnS w base 4 v os.length (fM os)):iy w v os:=h.sliceAt
end Go.Proofs.YtkkfmkhbdoeglaaGreatDoor
namespace Go.Proofs.YtkkfmkhbdoeglaaGreatDoor
section
variable {P:Program} {Q:Exit→Act→World→Prop} {md:Region.Mode}
def DN (P:Program) (o:Oper) (Q:Exit→Act→World→Prop):Exit→Act→World→Prop
 | .normal,a,w=>o.wp P a w (Q .normal) Q
 | e,a,w=>Q e a w
def BZ (md:Region.Mode) (ops:Array Oper) (n:Nat):Bool :=
 decide (ops.size=n+1)&&(List.range (n+1)).all fun i =>
  ((ops[i]?).map fun o=>o.guard.isNone&&(match o.op with | .select _ _=>false | _=>true)&&(o.after.all fun e => !Region.binds md e || decide (e.on<i)) &&
    (decide (i=n) || (List.range (n+1)).any fun k=>decide (i<k)&&((ops[k]?).map fun b=>b.after.any fun e=>Region.binds md e&&(e.on==i)).getD false)).getD false
theorem Cb {ops:Array Oper} {n:Nat} (h:BZ md ops n=true):ops.size=n+1∧∀ i,i≤n→∃ o,ops[i]?=some o∧o.guard=none∧(∀ e∈o.after,Region.binds md e=true→e.on<i)∧(i=n∨∃ k d,i<k∧k≤n∧ops[k]?=some d∧∃ e∈d.after,Region.binds md e=true∧e.on=i):=by
 unfold BZ at h
 rw [dI,de,eK] at h
 refine ⟨h.1,fun i q => ?_⟩
 have h2:=h.2 i (cR.2 (by omega))
 cases j:ops[i]? with
 | none=>rw [j] at h2;cases h2
 | some o =>
  rw [j] at h2
  simp only [dR,bF,dI,dE,de,Array.all_eq_true',List.any_eq_true,cR,Option.isNone_iff_eq_none,eE] at h2
  obtain ⟨⟨⟨h3,-⟩,h4⟩,h5⟩:=h2
  refine ⟨o,rfl,h3,fun e he m => ?_,?_⟩
  ·rcases h4 e he with h | h
   ·rw [m] at h;cases h
   ·exact h
  ·rcases h5 with h | ⟨k,hk,l,h6⟩
   ·exact .inl h
   ·right
    cases b:ops[k]? with
    | none=>rw [b] at h6;cases h6
    | some d =>
     rw [b] at h6
     simp only [dR,bF,Array.any_eq_true',dI,bf] at h6
     exact ⟨k,d,l,by omega,b,h6⟩
theorem iU {ops:Array Oper} {listed:Array Bool} {i:Nat} : i∈Region.ready md ops listed↔i<ops.size∧listed.getD i true=false∧∃ o,ops[i]?=some o∧∀ e∈o.after,Region.binds md e=true→listed.getD e.on false=true:=by
 unfold Region.ready
 rw [cf,cR,dI,eE]
 refine and_congr_right fun _=>and_congr_right fun _ => ?_
 cases b:ops[i]? with
 | none=>simp
 | some o =>
  simp only [dR,bF,Array.all_eq_true',dE,eE,eC,exists_eq_left']
  refine forall_congr' fun e=>forall_congr' fun _ => ?_
  cases Region.binds md e <;> simp
def yD (md:Region.Mode) (ops:Array Oper) (listed:Array Bool):Prop:=∀ i o,ops[i]?=some o→listed.getD i false=true→∀ e∈o.after,Region.binds md e=true→listed.getD e.on false=true
theorem getD_set_true {listed:Array Bool} {i k:Nat} (h:listed.getD k false=true):(listed.setIfInBounds i true).getD k false=true:=by
 rw [aP] at h⊢
 by_cases e:i=k
 ·subst e
  rw [cS]
  split
  ·rfl
  ·rename_i b
   rw [fq (by omega)] at h
   cases h
 ·rw [bV e]
  exact h
theorem yD.set {ops:Array Oper} {listed:Array Bool} (h:yD md ops listed) {i:Nat} (q:i∈Region.ready md ops listed):yD md ops (listed.setIfInBounds i true):=by
 obtain ⟨h1,h2,o,r,h3⟩:=iU.1 q
 intro j s b d e he l
 by_cases m:i=j
 ·subst m
  rw [r] at b
  cases b
  exact getD_set_true (h3 e he l)
 ·refine getD_set_true (h j s b ?_ e he l)
  rw [aP,bV m] at d
  rw [aP]
  exact d
theorem Oper.yN {o last:Oper} {a:Act} {w:World} {K:Act→World→Prop} (h:Oper.wp P o a w K (DN P last Q)):Oper.wp P o a w K Q:=by
 unfold Oper.wp at *
 generalize (execOp a.eval o).run P w=r at *
 cases r with
 | ok n w' =>
  cases n <;> simp only [Oper.upon] at h⊢<;> first | exact h | exact Calls.mono h (fun e b he=>by cases e <;> exact he)
 | halt x w'=>cases x <;> simp only [Oper.upon] at h⊢<;> exact h
theorem AJ {ops:Array Oper} {n:Nat} {last:Oper} (hF:BZ md ops n=true) (hl:ops[n]?=some last):∀ (f:Nat) (listed:Array Bool) (a:Act) (w:World),listed.size=n→yD md ops (listed.push false)→
  wpAny P md (ops.extract 0 n) (DN P last Q) f listed a w→wpAny P md ops Q (f+1) (listed.push false) a w:=by
 obtain ⟨ap,u⟩:=Cb hF
 have B:∀ i,i<n→(ops.extract 0 n)[i]?=ops[i]?:=fun i b=>by
  rw [Array.getElem?_extract_of_lt (by omega)]
  simp
 have O:(ops.extract 0 n).size=n:=by simp;omega
 have E:∀ (listed:Array Bool),listed.size=n→∀ k d,k<n→(listed.push false).getD k d=listed.getD k d:=fun listed hs k d hk=>by
  rw [aP,aP,ez (by omega),cm (by omega)]
 have gn:∀ (listed:Array Bool),listed.size=n→∀ d,(listed.push false).getD n d=false:=fun listed hs d=>by
  rw [aP,←hs,eO]
  rfl
 have J:∀ (listed:Array Bool),listed.size=n→∀ i,i<n→(i∈Region.ready md ops (listed.push false)↔i∈Region.ready md (ops.extract 0 n) listed):=fun listed hs i b=>by
  rw [iU,iU,O,ap,B i b,E listed hs i true b]
  obtain ⟨o,l,-,s,-⟩:=u i (by omega)
  rw [l]
  constructor
  ·rintro ⟨-,h2,Y,e,h3⟩
   cases e
   exact ⟨b,h2,o,rfl,fun e he q=>by have:=h3 e he q;rwa [E listed hs _ _ (by have:=s e he q;omega)] at this⟩
  ·rintro ⟨-,h2,Y,e,h3⟩
   cases e
   exact ⟨by omega,h2,o,rfl,fun e he q=>by rw [E listed hs _ _ (by have:=s e he q;omega)];exact h3 e he q⟩
 have Z:∀ (listed:Array Bool),listed.size=n→yD md ops (listed.push false)→n∈Region.ready md ops (listed.push false)→∀ i,i<n→listed.getD i false=true:=fun listed hs hd C=>by
  obtain ⟨-,-,o,l,aa⟩:=iU.1 C
  have key:∀ m i,i<n→n-i≤m→(listed.push false).getD i false=true:=by
   intro m
   induction m with
   | zero=>intro i b hm;omega
   | succ m ih =>
    intro i b hm
    obtain ⟨-,-,-,-,hk⟩:=u i (by omega)
    rcases hk with rfl | ⟨k,Y,a6,a7,R,e,he,q,rfl⟩
    ·omega
    ·by_cases ag:k=n
     ·subst ag
      rw [l] at R
      cases R
      exact aa e he q
     ·exact hd k Y R (ih k (by omega) (by omega)) e he q
  intro i b
  have:=key n i b (by omega)
  rwa [E listed hs i _ b] at this
 have M:∀ (listed:Array Bool),listed.size=n→Region.ready md (ops.extract 0 n) listed=[]→∀ i,i<n→listed.getD i false=true:=fun listed hs D=>by
  intro i
  induction i using Nat.strongRecOn with
  | _ i ih =>
   intro b
   cases F:listed.getD i false with
   | true=>rfl
   | false =>
    have:i∈Region.ready md (ops.extract 0 n) listed:=by
     obtain ⟨o,l,-,s,-⟩:=u i (by omega)
     refine iU.2 ⟨by omega,?_,o,(B i b).trans l,fun e he q=>ih e.on (s e he q) (by have:=s e he q;omega)⟩
     rw [aP,cm (by omega)] at F⊢
     exact F
    rw [D] at this
    cases this
 intro f
 induction f with
 | zero =>
  rintro listed a w hs hd ⟨D,hq⟩
  have G:=M listed hs D
  have C:n∈Region.ready md ops (listed.push false):=by
   obtain ⟨o,l,-,s,-⟩:=u n (af _)
   exact iU.2 ⟨by omega,gn listed hs true,o,l,fun e he q=>by have:=s e he q;rw [E listed hs _ _ this];exact G _ this⟩
  refine ⟨(fun h=>by rw [h] at C;cases C),fun i b => ?_⟩
  have x:i=n:=by
   have h1:=(iU.1 b).1
   refine ef fun aE => ?_
   have:=(J listed hs i (by omega)).1 b
   rw [D] at this
   cases this
  subst x
  unfold wpOp
  simp only [hl]
  obtain ⟨o,l,F,-⟩:=u i (af _)
  rw [hl] at l
  cases l
  rw [aB (by simp [Region.wanted,F])]
  refine .inl (Oper.wp_mono (fun a' w' hQ=>⟨?_,hQ⟩) hq)
  refine List.eq_nil_iff_forall_not_mem.2 fun j N => ?_
  obtain ⟨j1,r,-⟩:=iU.1 N
  by_cases I:j=i
  ·subst I
   rw [aP,cS,aB (by simp;omega)] at r
   cases r
  ·rw [aP,bV (ea I),←aP,E listed hs j _ (by omega)] at r
   have:=G j (by omega)
   rw [aP,cm (by omega)] at this r
   simp only [bF] at this r
   rw [this] at r
   cases r
 | succ f ih =>
  rintro listed a w hs hd ⟨hq,hA⟩
  by_cases D:Region.ready md (ops.extract 0 n) listed=[]
  ·
   have G:=M listed hs D
   have C:n∈Region.ready md ops (listed.push false):=by
    obtain ⟨o,l,-,s,-⟩:=u n (af _)
    exact iU.2 ⟨by omega,gn listed hs true,o,l,fun e he q=>by have:=s e he q;rw [E listed hs _ _ this];exact G _ this⟩
   refine ⟨(fun h=>by rw [h] at C;cases C),fun i b => ?_⟩
   have x:i=n:=by
    have h1:=(iU.1 b).1
    refine ef fun aE => ?_
    have:=(J listed hs i (by omega)).1 b
    rw [D] at this
    cases this
   subst x
   unfold wpOp
   simp only [hl]
   obtain ⟨o,l,F,-⟩:=u i (af _)
   rw [hl] at l
   cases l
   rw [aB (by simp [Region.wanted,F])]
   refine .inl (Oper.wp_mono (fun a' w' hQ => ?_) (hq D))
   have a0:Region.ready md ops ((listed.push false).setIfInBounds i true)=[]:=by
    refine List.eq_nil_iff_forall_not_mem.2 fun j N => ?_
    obtain ⟨j1,r,-⟩:=iU.1 N
    by_cases I:j=i
    ·subst I
     rw [aP,cS,aB (by simp;omega)] at r
     cases r
    ·rw [aP,bV (ea I),←aP,E listed hs j _ (by omega)] at r
     have:=G j (by omega)
     rw [aP,cm (by omega)] at this r
     simp only [bF] at this r
     rw [this] at r
     cases r
   refine ⟨fun _=>hQ,(fun j N=>by rw [a0] at N;cases N)⟩
  ·obtain ⟨j0,W⟩:=List.exists_mem_of_ne_nil _ D
   have S:=iU.1 W
   have X:j0<n:=by rw [O] at S;exact S.1
   have a1:n∉Region.ready md ops (listed.push false):=fun C=>by
    have h1:=Z listed hs hd C j0 X
    have h2:=S.2.1
    rw [aP,cm (by omega)] at h1 h2
    simp only [bF] at h1 h2
    rw [h1] at h2
    cases h2
   refine ⟨fun h => ?_,fun i b => ?_⟩
   ·have:=(J listed hs j0 X).2 W
    rw [h] at this
    cases this
   ·have x:i<n:=by
     have h1:=(iU.1 b).1
     have:i≠n:=fun e=>a1 (e▸b)
     omega
    have y:=hA i ((J listed hs i x).1 b)
    obtain ⟨o,l,F,-⟩:=u i (by omega)
    have U:(listed.push false).setIfInBounds i true=(listed.setIfInBounds i true).push false:=by
     refine Array.ext_getElem? fun k => ?_
     by_cases e:i=k
     ·subst e
      rw [cS,aB (by simp;omega),ez (by simp;omega),←cm,cS,aB (by omega)]
     ·rw [bV e]
      by_cases hk:k<n
      ·rw [ez (by omega),ez (by simp;omega),←cm,←cm,bV e]
      ·by_cases a2:k=n
       ·subst a2
        rw [←hs,eO,show listed.size=(listed.setIfInBounds i true).size by simp,eO]
       ·rw [fq (by simp;omega),fq (by simp;omega)]
    unfold wpOp at y⊢
    rw [B i x,l] at y
    simp only [l]
    have hw:∀ V,Region.wanted o (yielded V a.tmps)=true:=fun V=>by simp [Region.wanted,F]
    simp only [hw,dF] at y⊢
    rcases y with y | ⟨h1,h2⟩
    ·refine .inl (Oper.wp_mono (fun a' w' h' => ?_) (Oper.yN y))
     rw [U]
     exact ih (listed.setIfInBounds i true) a' w' (by simpa using hs) (by rw [←U];exact hd.set b) h'
    ·exact .inr ⟨h1,h2⟩
theorem pg (n:Nat):(Array.replicate n false).push false=Array.replicate (n+1) false:=by
 rw [aZ]
theorem gW {id n:Nat} {ops:Array Oper} {last:Oper} {S:World→Prop} {a:Act} {w:World} (hm:P.follows .mixedOrders=true) (hF:BZ .any ops n=true) (hl:ops[n]?=some last) (j:S w.drew)
  (h:S w.drew→wpAnyH P .any (ops.extract 0 n) (DN P last Q) S n (Array.replicate n false) a w.drew):(Code.region id ops true).wp P Q a w:=by
 refine wp_region_any hm ?_
 rw [(Cb hF).1,←pg]
 refine AJ hF hl n _ a _ (by simp) ?_ (wpAny_of_held _ _ _ _ (h j))
 intro i o l b
 rw [pg,aP] at b
 by_cases d:i<n+1
 ·rw [Array.getElem?_replicate,aB d] at b
  cases b
 ·rw [Array.getElem?_replicate,au d] at b
  cases b
end
end Go.Proofs.YtkkfmkhbdoeglaaGreatDoor
namespace Go.Proofs.YtkkfmkhbdoeglaaGreatDoor
open Go.RowKit Go.Shelf
theorem uS (t:Int):((lr t).toNat:Int)=IntKind.u8.wrap t:=by
 have h:IntKind.u8.wrap t=t%256:=rfl
 rw [h]
 unfold lr
 simp
 omega
theorem pX {P:Program} (p q:List UInt8) (hl:p.length+q.length≤9223372036854775807) (w:World):(Op.stringOp .add ⟨p.toArray⟩ ⟨q.toArray⟩).run P w = .ok (.string ⟨(p++q).toArray⟩) w:=by
 rw [run_string_add_sum w _ _ (by simp [ByteArray.size];omega),ByteArray.mk_append_mk]
theorem CellsOf.ne {w:World} {v:Value} {e T:TypeId} {b:Nat} {C:Array Value} {fz:Nat×Nat} (h:CellsOf w v e) (i:w.heap[b]?=some (.cells C T fz)) (j:T≠e):v.ownBlock≠some b:=fun he=>by
 obtain ⟨m,l,d⟩:=h b he
 rw [i] at d
 cases d
 exact j rfl
theorem CellsOf.o9 {w:World} {v:Value} {e:TypeId} {r:Nat} {S:List E} (h:CellsOf w v e) (d:TabAt w r S):v.ownBlock≠some r:=fun he=>by
 obtain ⟨j,i,b⟩:=h r he
 obtain ⟨-,L,⟨es,cl,hm,-⟩,-⟩:=d
 rw [hm] at b
 cases b
theorem TabAt.jC {w:World} {r:Nat} {S:List E} {b:Nat} {C:Array Value} {T:TypeId} {fz:Nat×Nat} (i:TabAt w r S) (d:w.heap[b]?=some (.cells C T fz)):b≠r:=fun he=>by
 obtain ⟨-,L,⟨es,cl,hm,-⟩,-⟩:=i
 rw [he,hm] at d
 cases d
theorem CellsOf.frame {w w':World} {v:Value} {e:TypeId} (h:CellsOf w v e) (j:∀ b,v.ownBlock=some b→b<w.heap.size→w'.heap[b]?=w.heap[b]?):CellsOf w' v e:=fun b d=>by
 obtain ⟨C,fz,i⟩:=h b d
 exact ⟨C,fz,(j b d (fw i)).trans i⟩
theorem E9:(Tryz.prog.info? 9).map (fun i=>(i.zero,i.size,i.bytes))=some (some (.string ⟨#[]⟩),1,16):=by kernel_rfl
theorem ry (w:World) (s:List UInt8):fH (w.alloc (.cells #[.string ⟨s.toArray⟩] 9)) (.slice (some ⟨w.heap.size,0,none⟩) 1 1) 1 1 (strsV [s]):=by
 refine ⟨rfl,_,1,rfl,af _,fun i b=>⟨_,0,rfl,?_⟩⟩
 obtain rfl:i=0:=by simp [strsV] at b;omega
 rw [mN]
 rfl
theorem Df (l:List (List UInt8)):∀ u∈strsV l,u.oneCell'=true:=by
 intro u hu
 obtain ⟨s,-,rfl⟩:=az.1 hu
 rfl
theorem p6 {P:Program} (w:World) (base:Nat) (t o ty e:TypeId) (i:TypeInfo) (z:Value) (y:P.underlying t=some (.slice e)) (B:P.info? e=some i) (C:i.zero=some z) (q:z.cells.size=i.size) (r:0<i.size)
  (v:Value) (n:Nat) (xs:List Value) (l:OwnS w base i.size v n xs) (G:CellsOf w v e) (x:Value) (m:Nat) (news:List Value) (hs:Src P i.size o x m news w)
  (s:n+m≤maxLen) (d:(n+m)*i.bytes≤140737488355328) (j:base≤w.heap.size) :
  ∃ v' w',(Builtin.append_ #[t,o] ty #[v,x]).run P w = .ok v' w'∧OwnS w' base i.size v' (n+m) (xs++news)∧w.grownBy w' v.ownBlock∧CellsOf w' v' e∧∀ b,v'.ownBlock=some b→v.ownBlock=some b∨b=w.heap.size:=by
 obtain ⟨v',w',D,h1,h2,h3⟩:=jr (P:=P) w base t o ty e i z y B C q r v n xs l G x m news hs s d j
 obtain ⟨M,N,E,-,-,F⟩:=jz (P:=P) w base t o ty e i z y B C q r v n xs l x m news hs s d j
 have hw:=E.symm.trans D
 injection hw with I J
 subst I J
 refine ⟨_,_,D,h1,h2,h3,fun b u => ?_⟩
 rcases F with ⟨g,off,cap,rfl,rfl,-⟩ | rfl | ⟨cap,rfl,-⟩
 ·exact .inl u
 ·simp [Value.ownBlock] at u
 ·right
  simpa [Value.ownBlock] using u.symm
theorem mM {P:Program} {o:Oper} {a:Act} {K:Act→World→Prop} {Q:Exit→Act→World→Prop} {w:World} (s x:Operand) (t l:TypeId)
  (B:o.op = .call {callee := .builtin .append,args:=#[s,x],argTypes:=#[t,l]})
  (base k:Nat) (e:TypeId) (i:TypeInfo) (z:Value) (C:P.underlying t=some (.slice e)) (D:P.info? e=some i) (E:i.zero=some z) (hk:i.size=k) (r:z.cells.size=i.size) (u:0<i.size)
  (v:Value) (n:Nat) (xs:List Value) (F:a.eval s=v) (q:OwnS w base k v n xs) (G:CellsOf w v e) (m:Nat) (news:List Value) (hs:Src P k l (a.eval x) m news w)
  (y:n+m≤maxLen) (d:(n+m)*i.bytes≤140737488355328) (j:base≤w.heap.size)
  (h:∀ v' w',OwnS w' base k v' (n+m) (xs++news)→w.grownBy w' v.ownBlock→CellsOf w' v' e→(∀ b,v'.ownBlock=some b→v.ownBlock=some b∨b=w.heap.size)→K (a.put o.dst v') w'):o.wp P a w K Q:=by
 subst hk
 obtain ⟨v',w',I,h1,h2,h3,h4⟩:=p6 (P:=P) w base t l o.type e i z C D E r u v n xs q G (a.eval x) m news hs y d j
 unfold Oper.wp execOp
 simp only [B,resolve,invoke,builtin,ck,fe,bZ,eu,bg,di,F,I]
 exact h v' w' h1 h2 h3 h4
theorem lF {ops:Array Oper} {o:Oper} {a:Act} {K:Act→World→Prop} {Q:Exit→Act→World→Prop} {E:Prop} {w:World} (q:o.guard=none) (s x:Operand)
  (y:o.op = .call {callee := .builtin .append,args:=#[s,x],argTypes:=#[64,64]})
  (base:Nat) (v:Value) (n:Nat) (l:List (List UInt8)) (F:n=l.length) (B:a.eval s=v) (j:OwnS w base 1 v n (strsV l)) (C:CellsOf w v 9) (m:List (List UInt8)) (hs:fH w (a.eval x) 1 m.length (strsV m))
  (hlen:n+m.length≤8796093022208) (d:base≤w.heap.size)
  (h:∀ v' w',OwnS w' base 1 v' (n+m.length) (strsV (l++m))→w.grownBy w' v.ownBlock→CellsOf w' v' 9→(∀ b,v'.ownBlock=some b→v.ownBlock=some b∨b=w.heap.size)→
   K (a.put o.dst v') w'):if Region.wanted o (yielded ops a.tmps)=true then Oper.wp Tryz.prog o a w K Q else E:=by
 have hw:Region.wanted o (yielded ops a.tmps)=true:=by simp [Region.wanted,q]
 rw [aB hw]
 obtain ⟨i0,D,r,i,u⟩:=dP E9
 have hmx:maxLen=9223372036854775807:=rfl
 refine mM s x _ _ y base 1 9 i0 (.string ⟨#[]⟩) Tryz.underlying64 D r i (by rw [i];rfl) (by omega) v n (strsV l) B j C m.length (strsV m) (fH.src Tryz.underlying64 hs (Df m)) (by omega) (by rw [u];omega) d (fun v' w' h1 h2 h3 h4 => ?_)
 rw [←oI] at h1
 exact h v' w' h1 h2 h3 h4
def BL (base h:Nat) (x:HV) (d':DpS) (w:World) (e:Ending) (w':World):Prop:=e = .returned (.tuple #[])∧∃ lv,DpAt w' base h {x with left:=d'.left,dead:=d'.dead,log:=lv} d'∧Ext (fun i=>i=h∨i=x.r∨x.log.ownBlock=some i) w w'∧∀ i,lv.ownBlock=some i→x.log.ownBlock=some i∨w.heap.size≤i
theorem Be (base h:Nat) (x:HV) (d:DpS) (t:Int) (m:List UInt8) (w:World) (hd:DpAt w base h x d) (C:base≤w.heap.size) (bv:d.log.length≤8000000000000) (hk:m.length≤fX) :
  Calls Tryz.prog 204 #[.agg #[.pointer (some ⟨h,0,none⟩)],.agg #[.int .i64 t,.string ⟨m.toArray⟩]] w (BL base h x (d.drop (t,m)) w):=by
 have a7:Below w.heap.size w ((w.alloc (.cells #[.pointer (some ⟨h,0,none⟩)] 189)).alloc (.cells #[.int .i64 t,.string ⟨m.toArray⟩] 94)):=((Below.refl _ w).alloc (af _) _).alloc (by simp) _
 have R0:=fG _ (.cells #[.int .i64 t,.string ⟨m.toArray⟩] 94) (fA w (.cells #[.pointer (some ⟨h,0,none⟩)] 189))
 have R1:=fA (w.alloc (.cells #[.pointer (some ⟨h,0,none⟩)] 189)) (.cells #[.int .i64 t,.string ⟨m.toArray⟩] 94)
 rw [ax] at R1
 have rc:=ae _ _ 0 _ _ _ R0
 obtain ⟨s,aE,a0,a1,E,a9,D,bw,bx⟩:=hd
 have ba:=fw s
 have H0:=s.fP (a7.block h ba)
 have HW:=ab a7
 have HK:=ab (uS t)
 have lo : -1≤x.left:=by omega
 have hi:x.left≤9223372036854775807:=by omega
 have cv:=ab (nc h x _ H0 lo hi)
 have bb:=ab (D.ne s (by decide))
 have bc:=ab (E.jC s)
 have cB:=ab (D.o9 E)
 have b7:Hid (x.r<w.heap.size):=ab E.lt
 have bz:=ab bw
 have c0:=ab bx
 have HL:=ab aE
 have HD:=ab a0
 have bD:=ab a1
 have HT:=ab E
 have HO:=ab a9
 have c1:=ab D
 have c2:=ab R0
 have c3:=ab R1
 have HB:=ab C
 have c4:=ab bv
 have d7:=ab s
 clear bw bx aE a0 a1 E a9 D R0 R1 a7 H0 lo hi C bv s
 go_enter Tryz.func204,Tryz.ntmps204
 go_wp2_with fail
 refine cv.out.mono ?_
 rintro e w2 ⟨rfl,bH,bd,a2⟩
 have bi:w.heap.size≠h:=by omega
 have bk:w.heap.size+1≠h:=by omega
 have R:=ab (a2.at bi c2.out)
 have F:=ab (a2.at bk c3.out)
 have aa:=ab bH
 have c5:=ab a2
 have bI:Hid (w2.heap.size=w.heap.size+2):=ab (by rw [bd];simp)
 clear bH a2 bd rc bi bk
 have rc:=ae _ _ 0 _ _ _ R.out
 have ag:Hid (Ext (fun i=>i=h) w w2):=ab ((Ext.fD HW.out).trans c5.out)
 have bL:Hid (Ext (fun i=>i=h∨i=x.r∨x.log.ownBlock=some i) w w2):=ab (ag.out.mono fun i e => .inl e)
 have bM:Hid (OwnS w2 base 1 x.log d.log.length (strsV d.log)):=ab (HO.out.frame ag.out.size fun b e C=>ag.out.block b C fun U=>bb.out (by rw [e,U]))
 have V:Hid (CellsOf w2 x.log 9):=ab (c1.out.frame fun b e C=>ag.out.block b C fun U=>bb.out (by rw [e,U]))
 have ak:Hid (TabAt w2 x.r d.S):=ab (HT.out.fP (ag.out.block _ b7.out (ea bc.out)))
 have B:Hid (x.stop.dead=d.stop.dead∧x.stop.left=d.stop.left):=ab (by unfold HV.stop DpS.stop;rw [HL.out,HD.out];exact ⟨rfl,rfl⟩)
 have bl:Hid (-1≤d.stop.left∧d.stop.left≤9223372036854775807):=ab (by have:=c0.out;unfold DpS.stop;simp only;split <;> omega)
 cases hdd:x.stop.dead with
 | true =>
  go_wp2
  refine aI (dA rfl _ _ _) rfl ?_
  have e:d.drop (t,m)=d.stop:=by unfold DpS.drop;rw [←B.out.1,hdd];rfl
  refine ⟨rfl,x.log,?_,bL.out,fun i e => .inl e⟩
  rw [e,←B.out.1,←B.out.2]
  exact ⟨aa.out,B.out.2,B.out.1,bD.out,ak.out,bM.out,V.out,bz.out,bl.out⟩
 | false =>
  unfold HostIs HV.cells at *
  have eD:=ae _ _ 11 _ _ _ aa.out
  have f9:=aj _ _ 11 _ _ aa.out
  have G:=ae _ _ 0 _ _ _ F.out
  have I:=ae _ _ 1 _ _ _ F.out
  have el:=fw aa.out
  have em:=fw F.out
  have d8:=fw R.out
  have c6:Hid (BytesAt (w2.alloc (.cells #[.int .u8 (IntKind.u8.wrap t)] 5)) (.slice (some ⟨w2.heap.size,0,none⟩) 1 1) [lr t]):=ab (by rw [←HK.out];exact o5 w2 (lr t))
  go_wp2
  have hcv:=BytesAt.convert (w:=(w2.alloc (.cells #[.int .u8 (IntKind.u8.wrap t)] 5)).drew) (by exact c6.out)
  have c7:=fun W=>pX (P:=Tryz.prog) [100,114,111,112,32] [lr t] (by simp) W
  have c8:=fun W=>pX (P:=Tryz.prog) [100,114,111,112,32,lr t] m (by unfold fX at hk;simp;omega) W
  have bN:=fun o o'=>ab (Below.drew (Below.al (Below.al (Below.rf w2) o) o'))
  have bO:=ab (ry (w2.alloc (.cells #[.int .u8 (IntKind.u8.wrap t)] 5)) (100::114::111::112::32::lr t::m))
  rw [ax] at bO
  rw [bR] at rc G I
  simp only [bB,aX] at rc G I
  simp only [bR,bB,aX] at eD
  have a3:=fun o=>ab (show _∧_∧_∧_ from ⟨fT o rc,fT o G,fT o I,fT o eD⟩)
  have a4:=fun o o'=>ab (show _∧_∧_∧_ from ⟨fT o' (fT o rc),fT o' (fT o G),fT o' (fT o I),fT o' (fT o eD)⟩)
  refine gW (n:=20) (S:=fun w'=>w'.cell? ⟨w.heap.size,0,none⟩=some (.pointer (some ⟨h,0,none⟩))∧w'.cell? ⟨w.heap.size+1,0,none⟩=some (.int .i64 t)∧w'.cell? ⟨w.heap.size+1,1,none⟩=some (.string ⟨m.toArray⟩)∧w'.cell? ⟨h,11,none⟩=some x.stop.log) (by kernel_rfl) (by kernel_rfl) rfl (by first | exact ⟨rc,G,I,eD⟩ | exact (a3 _).out | exact (a4 _ _).out) ?_
  intro b8
  simp only [cH,bW,cw,cG,bj,bY,aZ,bm,bJ,aO,aV]
  refine wpAnyH_take (i:=0) (v := ?_) rfl (by kernel_rfl) (by kernel_rfl) (by kernel_rfl) (fun _ _ _ h=>h) (Or.inl ⟨by rfl,?_⟩) (by assumption) ?_
  rotate_left 1
  ·(intro w l;(try dsimp only at l);go_simp;(try with_reducible rfl))
  try simp only [Act.put,ah,ai]
  refine wpAnyH_take (i:=1) (v := ?_) rfl (by kernel_rfl) (by kernel_rfl) (by kernel_rfl) (fun _ _ _ h=>h) (Or.inl ⟨by rfl,?_⟩) (by assumption) ?_
  rotate_left 1
  ·(intro w l;(try dsimp only at l);go_simp;(try with_reducible rfl))
  try simp only [Act.put,ah,ai,ao]
  refine wpAnyH_take (i:=2) (v := ?_) rfl (by kernel_rfl) (by kernel_rfl) (by kernel_rfl) (fun _ _ _ h=>h) (Or.inl ⟨by rfl,?_⟩) (by assumption) ?_
  rotate_left 1
  ·(intro w l;(try dsimp only at l);go_simp;(try with_reducible rfl))
  try simp only [Act.put,ah,ai,ao]
  refine wpAnyH_take (i:=3) (v := ?_) rfl (by kernel_rfl) (by kernel_rfl) (by kernel_rfl) (fun _ _ _ h=>h) (Or.inl ⟨by rfl,?_⟩) (by assumption) ?_
  rotate_left 1
  ·(intro w l;(try dsimp only at l);go_simp;(try with_reducible rfl))
  try simp only [Act.put,ah,ai,ao]
  refine wpAnyH_take (i:=4) (v := ?_) rfl (by kernel_rfl) (by kernel_rfl) (by kernel_rfl) (fun _ _ _ h=>h) (Or.inl ⟨by rfl,?_⟩) (by assumption) ?_
  rotate_left 1
  ·(intro w l;(try dsimp only at l);go_simp;(try with_reducible rfl))
  try simp only [Act.put,ah,ai,ao]
  refine wpAnyH_take (i:=5) (v := ?_) rfl (by kernel_rfl) (by kernel_rfl) (by kernel_rfl) (fun _ _ _ h=>h) (Or.inl ⟨by rfl,?_⟩) (by assumption) ?_
  rotate_left 1
  ·(intro w l;(try dsimp only at l);go_simp;(try with_reducible rfl))
  try simp only [Act.put,ah,ai,ao]
  refine wpAnyH_take (i:=6) (v := ?_) rfl (by kernel_rfl) (by kernel_rfl) (by kernel_rfl) (fun _ _ _ h=>h) (Or.inl ⟨by rfl,?_⟩) (by assumption) ?_
  rotate_left 1
  ·(intro w l;(try dsimp only at l);go_simp;(try with_reducible rfl))
  try simp only [Act.put,ah,ai,ao]
  refine wpAnyH_take (i:=7) (v := ?_) rfl (by kernel_rfl) (by kernel_rfl) (by kernel_rfl) (fun _ _ _ h=>h) (Or.inl ⟨by rfl,?_⟩) (by assumption) ?_
  rotate_left 1
  ·(intro w l;(try dsimp only at l);go_simp;(try with_reducible rfl))
  try simp only [Act.put,ah,ai,ao]
  refine wpAnyH_take (i:=8) (v := ?_) rfl (by kernel_rfl) (by kernel_rfl) (by kernel_rfl) (fun _ _ _ h=>h) (Or.inl ⟨by rfl,?_⟩) (by assumption) ?_
  rotate_left 1
  ·(intro w l;(try dsimp only at l);go_simp;(try with_reducible rfl))
  try simp only [Act.put,ah,ai,ao]
  refine wpAnyH_take (i:=9) (v := ?_) rfl (by kernel_rfl) (by kernel_rfl) (by kernel_rfl) (fun _ _ _ h=>h) (Or.inl ⟨by rfl,?_⟩) (by assumption) ?_
  rotate_left 1
  ·(intro w l;(try dsimp only at l);go_simp;(try with_reducible rfl))
  try simp only [Act.put,ah,ai,ao]
  refine wpAnyH_take (i:=13) (v := ?_) rfl (by kernel_rfl) (by kernel_rfl) (by kernel_rfl) (fun _ _ _ h=>h) (Or.inl ⟨by rfl,?_⟩) (by assumption) ?_
  rotate_left 1
  ·(intro w l;(try dsimp only at l);go_simp;(try with_reducible rfl))
  try simp only [Act.put,ah,ai,ao]
  refine wpAnyH_take (i:=14) (v := ?_) rfl (by kernel_rfl) (by kernel_rfl) (by kernel_rfl) (fun _ _ _ h=>h) (Or.inl ⟨by rfl,?_⟩) (by assumption) ?_
  rotate_left 1
  ·(intro w l;(try dsimp only at l);go_simp;(try with_reducible rfl))
  try simp only [Act.put,ah,ai,ao]
  refine wpAnyH_ready (rs:=[10]) (by kernel_rfl) (by simp) ?_
  refine AllReadyH.cons rfl ?_ AllReadyH.nil
  intro K' hK'
  go_simp
  refine hK'.out _ _ (by first | exact ⟨rc,G,I,eD⟩ | exact (a3 _).out | exact (a4 _ _).out) ?_
  clear hK' K'
  intro ca
  try simp only [ah,ai,ao]
  refine wpAnyH_ready (rs:=[11]) (by kernel_rfl) (by simp) ?_
  refine AllReadyH.cons rfl ?_ AllReadyH.nil
  intro K' hK'
  go_simp
  refine hK'.out _ _ (by first | exact ⟨rc,G,I,eD⟩ | exact (a3 _).out | exact (a4 _ _).out) ?_
  clear hK' K'
  intro cb
  try simp only [ah,ai,ao]
  refine wpAnyH_take (i:=12) (v := ?_) rfl (by kernel_rfl) (by kernel_rfl) (by kernel_rfl) (fun _ _ _ h=>h) (Or.inl ⟨by rfl,?_⟩) (by assumption) ?_
  rotate_left 1
  ·(intro w l;(try dsimp only at l);go_simp;(try with_reducible rfl))
  try simp only [Act.put,ah,ai,ao]
  refine wpAnyH_take (i:=15) (v := ?_) rfl (by kernel_rfl) (by kernel_rfl) (by kernel_rfl) (fun _ _ _ h=>h) (Or.inl ⟨by rfl,?_⟩) (by assumption) ?_
  rotate_left 1
  ·(intro w l;(try dsimp only at l);go_simp;(try with_reducible rfl))
  try simp only [Act.put,ah,ai,ao]
  refine wpAnyH_ready (rs:=[16]) (by kernel_rfl) (by simp) ?_
  refine AllReadyH.cons rfl ?_ AllReadyH.nil
  intro K' hK'
  go_simp
  refine hK'.out _ _ (by first | exact ⟨rc,G,I,eD⟩ | exact (a3 _).out | exact (a4 _ _).out) ?_
  clear hK' K'
  intro ce
  try simp only [ah,ai,ao]
  refine wpAnyH_ready (rs:=[17]) (by kernel_rfl) (by simp) ?_
  refine AllReadyH.cons rfl ?_ AllReadyH.nil
  intro K' hK'
  refine lF rfl (.tmp 13) (.tmp 23) rfl base _ _ d.log rfl rfl (by exact bM.out.below (bN _ _).out) (by exact V.out.frame fun b _ C=>(bN _ _).out.block b C) [nI (t,m)] (by exact bO.out) (by have:=c4.out;simp;omega) (by have:=HB.out;have:=bI.out;simp;omega) ?_;intro v3 w3 X q Y bP;obtain ⟨ap,J,rfl⟩:=X.shape;have N:=ab (ir q bb.out (fG _ (.cells #[.string ⟨(100::114::111::112::32::lr t::m).toArray⟩] 9) (fG _ (.cells #[.int .u8 (IntKind.u8.wrap t)] 5) aa.out)));have bS:=ab (ir q (V.out.ne R.out (by decide)) (fG _ (.cells #[.string ⟨(100::114::111::112::32::lr t::m).toArray⟩] 9) (fG _ (.cells #[.int .u8 (IntKind.u8.wrap t)] 5) R.out)));have bn:=ab (ir q (V.out.ne F.out (by decide)) (fG _ (.cells #[.string ⟨(100::114::111::112::32::lr t::m).toArray⟩] 9) (fG _ (.cells #[.int .u8 (IntKind.u8.wrap t)] 5) F.out)));refine hK'.out _ _ ⟨ae _ _ 0 _ _ _ bS.out,ae _ _ 0 _ _ _ bn.out,ae _ _ 1 _ _ _ bn.out,ae _ _ 11 _ _ _ N.out⟩ ?_
  clear hK' K'
  intro ci
  try simp only [Act.put,ah,ai,ao]
  refine wpAnyH_take (i:=18) (v := ?_) rfl (by kernel_rfl) (by kernel_rfl) (by kernel_rfl) (fun _ _ _ h=>h) (Or.inl ⟨by rfl,?_⟩) (by assumption) ?_
  rotate_left 1
  ·(intro w l;(try dsimp only at l);go_simp;(try with_reducible rfl))
  try simp only [Act.put,ah,ai,ao]
  refine wpAnyH_take (i:=19) (v := ?_) rfl (by kernel_rfl) (by kernel_rfl) (by kernel_rfl) (fun _ _ _ h=>h) (Or.inl ⟨by rfl,?_⟩) (by assumption) ?_
  rotate_left 1
  ·(intro w l;(try dsimp only at l);go_simp;(try with_reducible rfl))
  try simp only [Act.put,ah,ai,ao]
  refine wpAnyH_done (by kernel_rfl) ?_ _
  show Oper.wp _ _ _ _ _ _
  have e9:=ae _ _ 11 _ _ _ N.out
  have g9:=aj _ _ 11 _ _ N.out
  have en:=fw N.out
  have cl:Hid (∀ i,(Value.slice ap (d.log.length+1) J).ownBlock=some i→x.log.ownBlock=some i∨w.heap.size≤i):=ab (fun i e=>(bP i e).imp id fun U=>by have:=bI.out;rw [U];simp;omega)
  have c9:Hid (w2.heap.size≤w3.heap.size):=ab (by have:=q.size;simp at this;omega)
  have bX:=ab (Y.ne N.out (by decide))
  have b0:Hid (TabAt w3 x.r d.S):=ab (ak.out.fP ((q.block _ (by simp;have:=ak.out.lt;omega) (fun e=>cB.out e.symm)).trans ((heap_alloc_old _ _ (by simp;have:=ak.out.lt;omega)).trans (heap_alloc_old _ _ ak.out.lt))))
  have co:=ab (Y.o9 b0.out)
  have da:=ab X
  have cp:=ab Y
  have dc:Hid (Ext (fun i=>x.log.ownBlock=some i) w2 w3):=ab ⟨q.os,q.tape,q.output,c9.out,fun i hi O=>(q.block i (by simp;omega) (fun e=>O e.symm)).trans ((heap_alloc_old _ _ (by simp;omega)).trans (heap_alloc_old _ _ hi))⟩
  clear X q Y bP
  go_wp2
  obtain ⟨u,Q⟩:∃ u,u=w3.setCell ⟨h,11,none⟩ (.slice ap (d.log.length+1) J):=⟨_,rfl⟩
  rw [←Q]
  have y:∀ j,j≠h→u.heap[j]?=w3.heap[j]?:=fun j hj=>by rw [Q];exact Below.heap_setCell _ ⟨h,11,none⟩ _ j hj
  have cr:Hid (u.heap.size=w3.heap.size):=ab (by rw [Q,size_setCell])
  have bo:Hid (HostIs u h {x.stop with log := .slice ap (d.log.length+1) J}):=ab (by rw [Q];exact heap_setCell _ _ 11 _ N.out)
  have b1:=ab ((y _ (by omega:w.heap.size≠h)).trans bS.out)
  have br:=ab ((y _ (by omega:w.heap.size+1≠h)).trans bn.out)
  have dk:Hid (TabAt u x.r d.S):=ab (b0.out.fP (y _ (ea bc.out)))
  have dl:=ab (da.out.frame (w':=u) (by have:=cr.out;omega) fun b e _=>y b fun U=>bX.out (by rw [e,U]))
  have cs:=ab (cp.out.frame (w':=u) fun b e _=>y b fun U=>bX.out (by rw [e,U]))
  have dn:Hid (Ext (fun i=>i=h∨i=x.r∨x.log.ownBlock=some i) w u):=ab (by rw [Q];exact (bL.out.trans (dc.out.mono fun i e => .inr (.inr e))).setCell _ _ (.inl (.inl rfl)))
  clear Q y rc G I eD f9 e9 g9
  unfold HostIs HV.cells at *
  have q0:=ae _ _ 0 _ _ _ b1.out
  have G:=ae _ _ 0 _ _ _ br.out
  have I:=ae _ _ 1 _ _ _ br.out
  have eS:=ae _ _ 10 _ _ _ bo.out
  simp only [bR,bB,aX] at q0 G I eS
  have er:u.cell? ⟨h,10,none⟩=some (.map (some x.r)):=eS
  clear eS
  obtain ⟨W1,hu,b2,b3,dp⟩:=TabAt.drop (w:=u) dk.out (mt:=85) Tryz.underlying85 (t,m) 94 0
  have b4:=hu 1
  have bs:∀ w:World,w.drewN 1=w.drew:=fun _=>rfl
  rw [bs,bs] at b4
  simp only [kV,iD] at b4
  have ds:=ab b2
  have M:=ab b3
  have dv:=fw bo.out
  have ec:=fw b1.out
  have ed:=fw br.out
  clear hu bs b2 b3 dp hcv c7 c8 b8 ca cb ce ci
  go_region
  go_wp2
  go_end0
  have e:d.drop (t,m) = {d.stop with S:=ng (t,m) d.S,log:=d.log++[nI (t,m)]} := by unfold DpS.drop;rw [←B.out.1,hdd];rfl
  refine ⟨rfl,.slice ap (d.log.length+1) J,?_,?_,cl.out⟩
  ·rw [e]
   have O:∀ b,(Value.slice ap (d.log.length+1) J).ownBlock=some b→b≠x.r:=fun b e1 e2=>co.out (by rw [←e2];exact e1)
   have Z:∀ j,j≠x.r→j<u.heap.size→W1.heap[j]?=u.heap[j]?:=fun j hj ba=>M.out.block j ba (fun e=>hj (by cases e;rfl))
   refine ⟨?_,rfl,rfl,bD.out,ds.out.fP rfl,?_,?_,bz.out,bl.out⟩
   ·show W1.heap[h]?=_
    rw [Z h bc.out dv]
    have:=bo.out
    simp only [B.out.1,B.out.2] at this⊢
    exact this
   ·have h1:=dl.out.frame (w':=W1) M.out.size fun b e C=>Z b (O b e) C
    rw [oI] at h1
    show OwnS W1 base 1 _ (d.log++[nI (t,m)]).length (strsV (d.log++[nI (t,m)]))
    rw [oI,aq]
    exact h1
   ·exact cs.out.frame (w':=W1) fun b e C=>Z b (O b e) C
  ·refine (dn.out.trans' (T:=fun i=>i=x.r) (c:=W1.drew) ⟨M.out.os,M.out.tape,M.out.output,M.out.size,fun k hk O=>M.out.block k hk fun e=>O (by cases e;rfl)⟩ fun i e => .inl (.inr (.inl e)))
end Go.Proofs.YtkkfmkhbdoeglaaGreatDoor
namespace Go.Proofs.YtkkfmkhbdoeglaaGreatDoor
open Go.RowKit
def iP (w:World) (F:Nat→Prop) (v:Value) (b:List UInt8):Prop:=BytesAt w v b∧CellsOf w v 5∧∀ k,v.ownBlock=some k→F k
def RowsAt (w:World) (F:Nat→Prop) (v:Value) (rows:List (List UInt8)):Prop :=
 ∃ vals:List Value,OwnS w 0 1 v rows.length vals∧CellsOf w v 59∧(∀ k,v.ownBlock=some k→F k)∧∀ (i:Nat) (b:List UInt8),rows[i]?=some b→∃ u,vals[i]?=some u∧iP w F u b
def p7 (late:List (List UInt8×Nat)) (vals:List Value):List Value:=(late.zip vals).flatMap fun x=>[.int .i64 (x.1.2:Int),x.2]
def LateAt (w:World) (F:Nat→Prop) (v:Value) (late:List (List UInt8×Nat)):Prop :=
 ∃ vals:List Value,vals.length=late.length∧OwnS w 0 2 v late.length (p7 late vals)∧CellsOf w v 125∧(∀ k,v.ownBlock=some k→F k)∧∀ (i:Nat) (b:List UInt8×Nat),late[i]?=some b→∃ u,vals[i]?=some u∧iP w F u b.1
structure gB (w:World) (F:Nat→Prop) (h:Nat) (x:HV) (H:fx):Prop where
 dp:DpAt w 0 h x H.dp
 fail:x.fail=H.fail
 writes:x.writes=H.writes
 held:RowsAt w F x.held H.held
 seen:RowsAt w F x.seen H.seen
 late:LateAt w F x.late H.late
 apart:∀ k,x.held.ownBlock=some k→x.seen.ownBlock≠some k
 foot:F h∧F x.r∧∀ k,x.log.ownBlock=some k→F k
 lt:∀ k,F k→k<w.heap.size
def HostAt (w:World) (F:Nat→Prop) (h:Nat) (H:fx):Prop:=∃ x,gB w F h x H
def gV (w:World) (F S:Nat→Prop) (h:Nat) (H:fx) (w':World):Prop:=∃ F',HostAt w' F' h H∧(∀ k,F' k→F k∨w.heap.size≤k)∧Ext (fun k=>F k∨S k) w w'
theorem iP.fP {w w':World} {F:Nat→Prop} {v:Value} {b:List UInt8} (h:iP w F v b) (d:∀ k C fz,w.heap[k]?=some (.cells C 5 fz)→F k→w'.heap[k]?=w.heap[k]?):iP w' F v b:=by
 obtain ⟨h1,h2,h3⟩:=h
 have hk:∀ k,v.ownBlock=some k→k<w.heap.size→w'.heap[k]?=w.heap[k]?:=fun k e _=>by
  obtain ⟨C,fz,i⟩:=h2 k e
  exact d k C fz i (h3 k e)
 exact ⟨fH.frame h1 hk,h2.frame hk,h3⟩
theorem iP.mono {w:World} {F G:Nat→Prop} {v:Value} {b:List UInt8} (h:iP w F v b) (d:∀ k,F k→G k):iP w G v b:=⟨h.1,h.2.1,fun k e=>d k (h.2.2 k e)⟩
theorem RowsAt.xx {w w':World} {F:Nat→Prop} {v:Value} {rows:List (List UInt8)} (h:RowsAt w F v rows) (hs:w.heap.size≤w'.heap.size) (hk:∀ k,v.ownBlock=some k→k<w.heap.size→w'.heap[k]?=w.heap[k]?)
  (j:∀ k C fz,w.heap[k]?=some (.cells C 5 fz)→F k→w'.heap[k]?=w.heap[k]?):RowsAt w' F v rows:=by
 obtain ⟨vals,h1,h2,h3,h4⟩:=h
 refine ⟨vals,h1.frame hs hk,h2.frame hk,h3,fun i b l => ?_⟩
 obtain ⟨u,hu,d⟩:=h4 i b l
 exact ⟨u,hu,d.fP j⟩
theorem RowsAt.fP {w w':World} {F:Nat→Prop} {v:Value} {rows:List (List UInt8)} (h:RowsAt w F v rows) (hs:w.heap.size≤w'.heap.size)
  (d:∀ k C t fz,w.heap[k]?=some (.cells C t fz)→(t=5∨t=59)→F k→w'.heap[k]?=w.heap[k]?):RowsAt w' F v rows:=by
 have i:=h
 obtain ⟨vals,h1,h2,h3,h4⟩:=i
 exact h.xx hs (fun k e _=>by
  obtain ⟨C,fz,b⟩:=h2 k e
  exact d k C _ fz b (.inr rfl) (h3 k e)) fun k C fz b hF=>d k C _ fz b (.inl rfl) hF
theorem RowsAt.mono {w:World} {F G:Nat→Prop} {v:Value} {rows:List (List UInt8)} (h:RowsAt w F v rows) (j:∀ k,F k→G k):RowsAt w G v rows:=by
 obtain ⟨vals,h1,h2,h3,h4⟩:=h
 refine ⟨vals,h1,h2,fun k e=>j k (h3 k e),fun i b l => ?_⟩
 obtain ⟨u,hu,d⟩:=h4 i b l
 exact ⟨u,hu,d.mono j⟩
theorem LateAt.fP {w w':World} {F:Nat→Prop} {v:Value} {late:List (List UInt8×Nat)} (h:LateAt w F v late) (hs:w.heap.size≤w'.heap.size)
  (l:∀ k C t fz,w.heap[k]?=some (.cells C t fz)→(t=5∨t=125)→F k→w'.heap[k]?=w.heap[k]?):LateAt w' F v late:=by
 obtain ⟨vals,m,h1,h2,h3,h4⟩:=h
 have hk:∀ k,v.ownBlock=some k→k<w.heap.size→w'.heap[k]?=w.heap[k]?:=fun k e _=>by
  obtain ⟨C,fz,d⟩:=h2 k e
  exact l k C _ fz d (.inr rfl) (h3 k e)
 refine ⟨vals,m,h1.frame hs hk,h2.frame hk,h3,fun i b o => ?_⟩
 obtain ⟨u,hu,j⟩:=h4 i b o
 exact ⟨u,hu,j.fP fun k C fz d hF=>l k C _ fz d (.inl rfl) hF⟩
theorem LateAt.mono {w:World} {F G:Nat→Prop} {v:Value} {late:List (List UInt8×Nat)} (h:LateAt w F v late) (j:∀ k,F k→G k):LateAt w G v late:=by
 obtain ⟨vals,l,h1,h2,h3,h4⟩:=h
 refine ⟨vals,l,h1,h2,fun k e=>j k (h3 k e),fun i b m => ?_⟩
 obtain ⟨u,hu,d⟩:=h4 i b m
 exact ⟨u,hu,d.mono j⟩
theorem RowsAt.get {w:World} {F:Nat→Prop} {v:Value} {rows:List (List UInt8)} (h:RowsAt w F v rows):∃ g cap,v = .slice g rows.length cap∧rows.length≤cap∧∀ (i:Nat) (b:List UInt8),rows[i]?=some b→∃ g0 off u,g=some ⟨g0,off,none⟩∧w.cell? ⟨g0,off+i,none⟩=some u∧iP w F u b:=by
 obtain ⟨vals,h1,h2,h3,h4⟩:=h
 obtain ⟨hl,g,cap,j,hc,l⟩:=h1.sliceAt
 refine ⟨g,cap,j,hc,fun i b m => ?_⟩
 obtain ⟨u,hu,hs⟩:=h4 i b m
 obtain ⟨d,e⟩:=aF.1 hu
 obtain ⟨g0,off,o,q⟩:=l i d
 exact ⟨g0,off,u,o,by rw [q,e],hs⟩
theorem gB.frame {w w':World} {F:Nat→Prop} {h:Nat} {x:HV} {H:fx} (b:gB w F h x H) (hs:w.heap.size≤w'.heap.size) (d:∀ k,F k→w'.heap[k]?=w.heap[k]?):gB w' F h x H:=by
 obtain ⟨f1,f2,f3⟩:=b.foot
 have hd:=b.dp
 exact ⟨⟨hd.row.fP (d _ f1),hd.left,hd.dead,hd.room,hd.tab.fP (d _ f2),hd.own.frame hs fun k e _=>d k (f3 k e),hd.ltyp.frame fun k e _=>d k (f3 k e),hd.lo,hd.lb⟩,b.fail,b.writes,
  b.held.fP hs fun k _ _ _ _ _ hF=>d k hF,b.seen.fP hs fun k _ _ _ _ _ hF=>d k hF,b.late.fP hs fun k _ _ _ _ _ hF=>d k hF,b.apart,b.foot,fun k hk=>ay (b.lt k hk) hs⟩
theorem HostAt.frame {w w':World} {F:Nat→Prop} {h:Nat} {H:fx} (b:HostAt w F h H) (hs:w.heap.size≤w'.heap.size) (d:∀ k,F k→w'.heap[k]?=w.heap[k]?):HostAt w' F h H:=by
 obtain ⟨x,i⟩:=b
 exact ⟨x,i.frame hs d⟩
theorem HostAt.lt {w:World} {F:Nat→Prop} {h:Nat} {H:fx} (b:HostAt w F h H):∀ k,F k→k<w.heap.size:=by
 obtain ⟨x,d⟩:=b
 exact d.lt
theorem HostAt.below {w w':World} {F:Nat→Prop} {h:Nat} {H:fx} (b:HostAt w F h H) (d:Below w.heap.size w w'):HostAt w' F h H:=b.frame d.size fun k hk=>d.block k (b.lt k hk)
theorem HostAt.ext {w w':World} {F S:Nat→Prop} {h:Nat} {H:fx} (b:HostAt w F h H) (d:Ext S w w') (i:∀ k,F k→¬S k):HostAt w' F h H:=b.frame d.size fun k hk=>d.block k (b.lt k hk) (i k hk)
theorem gV.start {w:World} {F S:Nat→Prop} {h:Nat} {H:fx} (b:HostAt w F h H):gV w F S h H w:=⟨F,b,fun _ => .inl,Ext.refl _ _⟩
theorem gV.below {w w1 w':World} {F S:Nat→Prop} {h:Nat} {H:fx} (d:gV w F S h H w1) (b:Below w1.heap.size w1 w'):gV w F S h H w':=by
 obtain ⟨F',h1,h2,h3⟩:=d
 exact ⟨F',h1.below b,h2,h3.trans (Ext.fD b)⟩
theorem gV.trans {w w1 w2:World} {F b S:Nat→Prop} {h:Nat} {d:fx} (h2:∀ k,b k→F k∨w.heap.size≤k) (h3:Ext (fun k=>F k∨S k) w w1) (i:gV w1 b S h d w2):gV w F S h d w2:=by
 obtain ⟨j,g1,g2,g3⟩:=i
 refine ⟨j,g1,fun k hk => ?_,h3.trans' g3 fun k hk => ?_⟩
 ·rcases g2 k hk with e | e
  ·exact h2 k e
  ·exact .inr (aH h3.size e)
 ·rcases hk with e | e
  ·exact (h2 k e).imp .inl id
  ·exact .inl (.inr e)
theorem lH (h:Nat) (x:HV) (w:World) (d:HostIs w h x) (lo : -1≤x.fail) (u:x.fail≤9223372036854775807) :
  Calls Tryz.prog 194 #[.pointer (some ⟨h,0,none⟩)] w fun e w'=>e = .returned (.bool (decide (x.fail=0)))∧HostIs w' h {x with fail:=if x.fail<0 then x.fail else x.fail-1}∧w'.heap.size=w.heap.size∧Ext (fun i=>i=h) w w':=by
 obtain ⟨a0,a1,a2,n,j,b,wr,r0,r1,r2,r,lv⟩:=x
 unfold HostIs HV.cells at d⊢
 simp only at lo u d⊢
 have c4:=ae _ _ 4 _ _ _ d
 have f4:=aj _ _ 4 _ _ d
 have B:=fw d
 have s:∀ v:Value,Hid ((w.setCell ⟨h,4,none⟩ v).heap[h]?=some (.cells #[a0,a1,a2,.int .i64 n,v,.bool b,.int .i64 wr,.int .i64 r0,.int .i64 r1,.int .i64 r2,.map (some r),lv] 87)∧(w.setCell ⟨h,4,none⟩ v).heap.size=w.heap.size∧Ext (fun i=>i=h) w (w.setCell ⟨h,4,none⟩ v)) :=
  fun v=>ab ⟨heap_setCell _ _ 4 v d,size_setCell _ _ _,(Ext.refl _ w).setCell _ _ (.inl rfl)⟩
 have y:=ab d
 clear d
 go_enter Tryz.func194,Tryz.ntmps194
 rcases dO j 0 with l | l | l
 ·have e:decide (j=0)=false:=by simp;omega
  rw [aB l,e]
  go_wp2
  go_ret
  exact ⟨rfl,y.out,rfl,Ext.refl _ _⟩
 ·subst l
  rw [au (by omega)]
  go_wp2
  go_ret
  obtain ⟨m,o,q⟩:=(s (.int .i64 (-1))).out
  exact ⟨rfl,m,o,q⟩
 ·have e:decide (j=0)=false:=by simp;omega
  have C:decide (j-1<0)=false:=by simp;omega
  rw [au (by omega),e]
  go_wp2
  go_ret
  obtain ⟨m,o,q⟩:=(s (.int .i64 (j-1))).out
  exact ⟨rfl,m,o,q⟩
theorem gB.GC {w w1:World} {F:Nat→Prop} {h:Nat} {x x':HV} {H H':fx} (b:gB w F h x H) (h1:HostIs w1 h x') (hs:w1.heap.size=w.heap.size) (u:Ext (fun i=>i=h) w w1)
  (y:x'.held=x.held∧x'.seen=x.seen∧x'.r=x.r∧x'.log=x.log∧x'.room=x.room) (B:H'.held=H.held∧H'.seen=H.seen∧H'.dp.S=H.dp.S∧H'.dp.log=H.dp.log∧H'.dp.room=H.dp.room)
  (D:x'.left=H'.dp.left∧x'.dead=H'.dp.dead∧x'.fail=H'.fail∧x'.writes=H'.writes) (lb : -1≤H'.dp.left∧H'.dp.left≤9223372036854775807) (l:LateAt w1 F x'.late H'.late):gB w1 F h x' H':=by
 obtain ⟨f1,f2,f3⟩:=b.foot
 have hd:=b.dp
 have s:∀ k,k<w.heap.size→k≠h→w1.heap[k]?=w.heap[k]?:=fun k hk d=>u.block k hk d
 have j:w.heap[h]?=_:=hd.row
 have m:∀ (k:Nat) (C:Array Value) (t:TypeId) (fz:Nat×Nat),w.heap[k]?=some (Obj.cells C t fz)→t≠87→w1.heap[k]?=w.heap[k]?:=fun k C t fz hk d=>s k (fw hk) fun e=>by
  rw [e,j] at hk
  cases hk
  exact d rfl
 have hle:w.heap.size≤w1.heap.size:=by omega
 obtain ⟨a1,a2,a4,a5,E⟩:=y
 obtain ⟨G,I,J,M,N⟩:=B
 obtain ⟨d1,d2,d3,d4⟩:=D
 refine ⟨⟨h1,d1,d2,by rw [E,N];exact hd.room,?_,?_,?_,⟨aK _,aK _⟩,lb⟩,d3,d4,?_,?_,l,by rw [a1,a2];exact b.apart,by rw [a4,a5];exact b.foot,fun k hk=>ay (b.lt k hk) hle⟩
 ·rw [a4,J]
  exact hd.tab.fP (s _ hd.tab.lt fun e=>hd.tab.jC j e.symm)
 ·rw [a5,M]
  exact hd.own.frame hle fun k e _=>by
   obtain ⟨C,fz,o⟩:=hd.ltyp k e
   exact m k C _ fz o (by decide)
 ·rw [a5]
  exact hd.ltyp.frame fun k e _=>by
   obtain ⟨C,fz,o⟩:=hd.ltyp k e
   exact m k C _ fz o (by decide)
 ·rw [a1,G]
  exact b.held.fP hle fun k C t fz hk q _=>m k C t fz hk (by rcases q with rfl | rfl <;> decide)
 ·rw [a2,I]
  exact b.seen.fP hle fun k C t fz hk q _=>m k C t fz hk (by rcases q with rfl | rfl <;> decide)
theorem gB.row {w w1:World} {F:Nat→Prop} {h:Nat} {x x':HV} {H H':fx} (d:gB w F h x H) (h1:HostIs w1 h x') (hs:w1.heap.size=w.heap.size) (l:Ext (fun i=>i=h) w w1)
  (m:x'.held=x.held∧x'.seen=x.seen∧x'.late=x.late∧x'.r=x.r∧x'.log=x.log∧x'.room=x.room) (o:H'.held=H.held∧H'.seen=H.seen∧H'.late=H.late∧H'.dp.S=H.dp.S∧H'.dp.log=H.dp.log∧H'.dp.room=H.dp.room)
  (q:x'.left=H'.dp.left∧x'.dead=H'.dp.dead∧x'.fail=H'.fail∧x'.writes=H'.writes) (lb : -1≤H'.dp.left∧H'.dp.left≤9223372036854775807):gB w1 F h x' H':=by
 have j:w.heap[h]?=_:=d.dp.row
 obtain ⟨a1,a2,a3,a4,a5,s⟩:=m
 obtain ⟨u,y,B,D,E,G⟩:=o
 refine d.GC h1 hs l ⟨a1,a2,a4,a5,s⟩ ⟨u,y,D,E,G⟩ q lb ?_
 rw [a3,B]
 exact d.late.fP (by omega) fun k C t fz hk b _=>l.block k (fw hk) fun e=>by
  have I:k=h:=e
  rw [I,j] at hk
  cases hk
  rcases b with b | b <;> exact absurd b (by decide)
theorem gB.asked {w w1:World} {F:Nat→Prop} {h:Nat} {x:HV} {H:fx} (b:gB w F h x H) (h1:HostIs w1 h {x with fail:=if x.fail<0 then x.fail else x.fail-1}) (hs:w1.heap.size=w.heap.size) (d:Ext (fun i=>i=h) w w1) :
  gB w1 F h {x with fail:=if x.fail<0 then x.fail else x.fail-1} H.asked:=by
 refine b.row h1 hs d ⟨rfl,rfl,rfl,rfl,rfl,rfl⟩ ⟨rfl,rfl,rfl,rfl,rfl,rfl⟩ ⟨b.dp.left,b.dp.dead,?_,b.writes⟩ b.dp.lb
 show _=H.asked.fail
 unfold fx.asked
 simp only [b.fail]
theorem Fg {d:DpS} (lb : -1≤d.left∧d.left≤9223372036854775807) : -1≤d.stop.left∧d.stop.left≤9223372036854775807:=by
 unfold DpS.stop
 simp only
 split <;> omega
theorem gB.Cd {w w1:World} {F:Nat→Prop} {h:Nat} {x:HV} {H:fx} (b:gB w F h x H) (h1:HostIs w1 h x.stop) (hs:w1.heap.size=w.heap.size) (d:Ext (fun i=>i=h) w w1) :
  gB w1 F h x.stop {H with dp:=H.dp.stop} := by
 refine b.row h1 hs d ⟨rfl,rfl,rfl,rfl,rfl,rfl⟩ ⟨rfl,rfl,rfl,rfl,rfl,rfl⟩ ⟨?_,?_,b.fail,b.writes⟩ (Fg b.dp.lb)
 ·unfold HV.stop DpS.stop
  simp only [b.dp.left]
 ·unfold HV.stop DpS.stop
  simp only [b.dp.left,b.dp.dead]
theorem RowsAt.set {w w':World} {F:Nat→Prop} {gs os cap n:Nat} {rows:List (List UInt8)} (h:RowsAt w F (.slice (some ⟨gs,os,none⟩) rows.length cap) rows) (B:n<rows.length) {u:Value} {s:List UInt8} (hu:∀ C fz,w.heap[gs]?=some (.cells C 59 fz)→iP w F u s)
  (he:w'=w.setCell ⟨gs,os+n,none⟩ u):RowsAt w' F (.slice (some ⟨gs,os,none⟩) rows.length cap) (rows.set n s):=by
 obtain ⟨vals,h1,h2,h3,h4⟩:=h
 obtain ⟨C,fz,l⟩:=h2 gs rfl
 have hs:=hu C fz l
 have m:w'.heap[gs]?=some (.cells (C.setIfInBounds (os+n) u) 59 fz):=by rw [he];exact heap_setCell _ _ _ _ l
 have o:∀ k,k≠gs→w'.heap[k]?=w.heap[k]?:=fun k hk=>by rw [he];exact Below.heap_setCell w ⟨gs,os+n,none⟩ u k hk
 have j:∀ (v:Value) (b:List UInt8),iP w F v b→iP w' F v b:=fun v b q=>q.fP fun k Q M hk _=>o k fun e=>by
  rw [e,l] at hk
  cases hk
 have hlen:w'.heap.size=w.heap.size:=by rw [he,size_setCell]
 obtain ⟨hl,r⟩:=h1
 refine ⟨vals.set n u,⟨by rw [bU,hl,bU],?_⟩,fun k hk => ?_,h3,fun i b d => ?_⟩
 ·rcases r with ⟨e,-⟩ | ⟨R,D,cap',e,E,N,hc,hm,G,x⟩
  ·cases e
  ·cases e
   right
   refine ⟨gs,os,cap,by rw [bU],E,by omega,by rw [bU];exact hc,hm,fun i d => ?_,fun i d => ?_⟩
   ·rw [bU] at d
    rw [List.getElem_set]
    split
    ·rename_i e
     subst e
     rw [he]
     exact World.cell?_setCell_same' w _ u (x n (by omega)).1
    ·rename_i O
     rw [he,cF w (a:=⟨gs,os+n,none⟩) (b:=⟨gs,os+i,none⟩) u (by intro e;injection e with I J;omega)]
     exact G i d
   ·obtain ⟨f1,f2⟩:=x i d
    refine ⟨?_,?_⟩
    ·by_cases e:i=n
     ·subst e
      rw [he,World.cell?_setCell_same' w _ u f1]
      rfl
     ·rw [he,cF w (a:=⟨gs,os+n,none⟩) (b:=⟨gs,os+i,none⟩) u (by intro e;injection e with I J;omega)]
      exact f1
    ·rw [he,eB]
     exact f2
 ·cases hk
  exact ⟨_,_,m⟩
 ·by_cases e:i=n
  ·subst e
   rw [dT B] at d
   cases d
   exact ⟨u,by rw [dT (by omega)],j _ _ hs⟩
  ·rw [eo (ea e)] at d
   obtain ⟨v,q,y⟩:=h4 i b d
   exact ⟨v,by rw [eo (ea e)];exact q,j _ _ y⟩
theorem iP.BH {w:World} {F:Nat→Prop} {B n:Nat} {l:List UInt8} (h:w.heap[B]?=some (.cells (u8s l).toArray 5 (0,0))) (hF:F B) (b:l.length=n):iP w F (.slice (some ⟨B,0,none⟩) n n) l:=by
 subst b
 refine ⟨BytesAt.mk' (af _) fun i d=>⟨B,0,rfl,?_⟩,fun k hk => ?_,fun k hk => ?_⟩
 ·have:=ae w B (0+i) _ _ _ h
  rw [this,bE,bR,FA l i d]
 ·cases hk
  exact ⟨_,_,h⟩
 ·cases hk
  exact hF
theorem ku {ops:Array Oper} {o:Oper} {a:Act} {K:Act→World→Prop} {Q:Exit→Act→World→Prop} {E:Prop} {w:World} (y:o.guard=none) (s x:Operand) (t e:TypeId) (k b:Nat) (z:Value)
  (B:Tryz.prog.underlying t=some (.slice e)) (j:(Tryz.prog.info? e).map (fun i=>(i.zero,i.size,i.bytes))=some (some z,k,b)) (C:z.cells.size=k) (hk:0<k)
  (G:o.op = .call {callee := .builtin .append,args:=#[s,x],argTypes:=#[t,t]})
  (base:Nat) (v:Value) (n:Nat) (xs:List Value) (I:a.eval s=v) (r:OwnS w base k v n xs) (J:CellsOf w v e) (m:Nat) (news:List Value) (hs:fH w (a.eval x) k m news) (h1:∀ u∈news,u.oneCell'=true)
  (hlen:n+m≤9223372036854775807) (d:(n+m)*b≤140737488355328) (l:base≤w.heap.size)
  (h:∀ v' w',OwnS w' base k v' (n+m) (xs++news)→w.grownBy w' v.ownBlock→CellsOf w' v' e→(∀ b,v'.ownBlock=some b→v.ownBlock=some b∨b=w.heap.size)→
   K (a.put o.dst v') w'):if Region.wanted o (yielded ops a.tmps)=true then Oper.wp Tryz.prog o a w K Q else E:=by
 have hw:Region.wanted o (yielded ops a.tmps)=true:=by simp [Region.wanted,y]
 rw [aB hw]
 obtain ⟨i0,M,D,q,F⟩:=dP j
 exact mM s x _ _ G base k e i0 z B M D q (by rw [q];exact C) (by omega) v n xs I r J m news (fH.src B hs h1) hlen (by rw [F];exact d) l h
theorem GB:(Tryz.prog.info? 125).map (fun i=>(i.zero,i.size,i.bytes))=some (some (.agg #[.int .i64 0,.slice none 0 0]),2,32):=by kernel_rfl
theorem z8 {late:List (List UInt8×Nat)} {vals:List Value} (h:vals.length=late.length) (s:List UInt8) (n:Nat) (u:Value):p7 (late++[(s,n)]) (vals++[u])=p7 late vals++[.int .i64 (n:Int),u]:=by
 unfold p7
 rw [List.zip_append h.symm,et]
 rfl
theorem EZ (w:World) (n:Int) (u:Value):fH (w.alloc (.cells #[.int .i64 n,u] 125)) (.slice (some ⟨w.heap.size,0,none⟩) 1 1) 2 1 [.int .i64 n,u]:=by
 refine ⟨rfl,_,1,rfl,af _,fun i b=>⟨_,0,rfl,?_⟩⟩
 rw [mN]
 obtain rfl | rfl:i=0∨i=1:=by simp at b;omega
 ·rfl
 ·rfl
theorem pO {w:World} {v:Value} {e T:TypeId} {gs:Nat} {C:Array Value} {fz:Nat×Nat} (h:CellsOf w v e) (d:w.heap[gs]?=some (.cells C T fz)) (i:T≠e):∀ k,v.ownBlock=some k→k≠gs:=fun k hk j=>by
 obtain ⟨m,l,b⟩:=h k hk
 rw [j,d] at b
 cases b
 exact i rfl
theorem gB.BN {w w':World} {F F':Nat→Prop} {h gs os cap n:Nat} {x:HV} {H:fx} {u:Value} {s:List UInt8} (d:gB w F h x H) (m:x.seen = .slice (some ⟨gs,os,none⟩) H.seen.length cap) (E:n<H.seen.length) (hu:iP w F' u s) (hF:∀ k,F k→F' k) (y:∀ k,F' k→k<w.heap.size)
  (he:w'=w.setCell ⟨gs,os+n,none⟩ u):gB w' F' h x {H with seen:=H.seen.set n s}∧w'.heap.size=w.heap.size∧Ext F w w':=by
 have j:=d.seen.mono hF
 rw [m] at j
 have r:=j
 obtain ⟨-,-,h2,h3,-⟩:=r
 obtain ⟨M,J,i⟩:=h2 gs rfl
 have o:=j.set E (fun _ _ _=>hu) he
 have b:∀ k,k≠gs→w'.heap[k]?=w.heap[k]?:=fun k hk=>by rw [he];exact Below.heap_setCell w ⟨gs,os+n,none⟩ u k hk
 have B:w'.heap.size=w.heap.size:=by rw [he,size_setCell]
 have hle:w.heap.size≤w'.heap.size:=by omega
 have hd:=d.dp
 have l:w.heap[h]?=_:=hd.row
 obtain ⟨f1,f2,f3⟩:=d.foot
 have q:∀ (k:Nat) (C:Array Value) (fz:Nat×Nat),w.heap[k]?=some (Obj.cells C 5 fz)→w'.heap[k]?=w.heap[k]?:=fun k C fz hk=>b k fun e=>by
  rw [e,i] at hk
  cases hk
 have D:F gs:=by
  obtain ⟨-,-,-,g3,-⟩:=d.seen
  exact g3 gs (by rw [m];rfl)
 refine ⟨⟨⟨hd.row.fP (b _ fun e => ?_),hd.left,hd.dead,hd.room,hd.tab.fP (b _ (ea (hd.tab.jC i))),hd.own.frame hle fun k e _=>b k (pO hd.ltyp i (by decide) k e),hd.ltyp.frame fun k e _=>b k (pO hd.ltyp i (by decide) k e),hd.lo,hd.lb⟩,d.fail,d.writes,?_,?_,?_,d.apart,⟨hF _ f1,hF _ f2,fun k e=>hF _ (f3 k e)⟩,fun k hk=>by have:=y k hk;omega⟩,B,?_⟩
 ·rw [e,i] at l
  cases l
 ·refine (d.held.mono hF).xx hle (fun k e _=>b k fun G=>d.apart k e (by rw [m,G];rfl)) fun k C fz hk _=>q k C fz hk
 ·rw [m]
  have e:(H.seen.set n s).length=H.seen.length:=bU
  show RowsAt w' F' _ (H.seen.set n s)
  exact o
 ·refine (d.late.mono hF).fP hle fun k C t fz hk I _ => ?_
  rcases I with rfl | rfl
  ·exact q k C fz hk
  ·exact b k fun e=>by rw [e,i] at hk;cases hk
 ·rw [he]
  exact (Ext.refl _ w).setCell _ _ (.inl D)
theorem gB.BT {w w':World} {F F':Nat→Prop} {h gs os cap n:Nat} {x:HV} {H:fx} {u:Value} {s:List UInt8} (d:gB w F h x H) (m:x.held = .slice (some ⟨gs,os,none⟩) H.held.length cap) (E:n<H.held.length) (hu:iP w F' u s) (hF:∀ k,F k→F' k) (y:∀ k,F' k→k<w.heap.size)
  (he:w'=w.setCell ⟨gs,os+n,none⟩ u):gB w' F' h x {H with held:=H.held.set n s}∧w'.heap.size=w.heap.size∧Ext F w w':=by
 have j:=d.held.mono hF
 rw [m] at j
 have r:=j
 obtain ⟨-,-,h2,h3,-⟩:=r
 obtain ⟨M,J,i⟩:=h2 gs rfl
 have o:=j.set E (fun _ _ _=>hu) he
 have b:∀ k,k≠gs→w'.heap[k]?=w.heap[k]?:=fun k hk=>by rw [he];exact Below.heap_setCell w ⟨gs,os+n,none⟩ u k hk
 have B:w'.heap.size=w.heap.size:=by rw [he,size_setCell]
 have hle:w.heap.size≤w'.heap.size:=by omega
 have hd:=d.dp
 have l:w.heap[h]?=_:=hd.row
 obtain ⟨f1,f2,f3⟩:=d.foot
 have q:∀ (k:Nat) (C:Array Value) (fz:Nat×Nat),w.heap[k]?=some (Obj.cells C 5 fz)→w'.heap[k]?=w.heap[k]?:=fun k C fz hk=>b k fun e=>by
  rw [e,i] at hk
  cases hk
 have D:F gs:=by
  obtain ⟨-,-,-,g3,-⟩:=d.held
  exact g3 gs (by rw [m];rfl)
 refine ⟨⟨⟨hd.row.fP (b _ fun e => ?_),hd.left,hd.dead,hd.room,hd.tab.fP (b _ (ea (hd.tab.jC i))),hd.own.frame hle fun k e _=>b k (pO hd.ltyp i (by decide) k e),hd.ltyp.frame fun k e _=>b k (pO hd.ltyp i (by decide) k e),hd.lo,hd.lb⟩,d.fail,d.writes,?_,?_,?_,d.apart,⟨hF _ f1,hF _ f2,fun k e=>hF _ (f3 k e)⟩,fun k hk=>by have:=y k hk;omega⟩,B,?_⟩
 ·rw [e,i] at l
  cases l
 ·rw [m]
  have e:(H.held.set n s).length=H.held.length:=bU
  show RowsAt w' F' _ (H.held.set n s)
  exact o
 ·refine (d.seen.mono hF).xx hle (fun k e _=>b k fun G=>d.apart gs (by rw [m];rfl) (by rw [←G];exact e)) fun k C fz hk _=>q k C fz hk
 ·refine (d.late.mono hF).fP hle fun k C t fz hk I _ => ?_
  rcases I with rfl | rfl
  ·exact q k C fz hk
  ·exact b k fun e=>by rw [e,i] at hk;cases hk
 ·rw [he]
  exact (Ext.refl _ w).setCell _ _ (.inl D)
theorem gB.Fa {w j w8:World} {F:Nat→Prop} {h n:Nat} {x:HV} {H:fx} {vals:List Value} {v7 u:Value} {s:List UInt8} (l:gB w F h x H) (o:vals.length=H.late.length) (V:∀ (i:Nat) (b:List UInt8×Nat),H.late[i]?=some b→∃ u,vals[i]?=some u∧iP w F u b.1) (hu:iP w F u s)
  (N:Ext (fun k=>x.late.ownBlock=some k) w j) (Q:OwnS j 0 2 v7 (H.late.length+1) (p7 H.late vals++[.int .i64 (n:Int),u])) (q:CellsOf j v7 125) (R:∀ b,v7.ownBlock=some b→x.late.ownBlock=some b∨w.heap.size≤b) (he:w8=j.setCell ⟨h,2,none⟩ v7) :
  gB w8 (fun k=>F k∨(w.heap.size≤k∧k<w8.heap.size)) h {x with late:=v7} {H with late:=H.late++[(s,n)]}∧Ext F w w8:=by
 have hd:=l.dp
 have d:w.heap[h]?=_:=hd.row
 obtain ⟨f1,f2,f3⟩:=l.foot
 obtain ⟨-,-,-,lt,W,-⟩:=l.late
 have X:¬x.late.ownBlock=some h:=lt.ne d (by decide)
 have m:j.heap[h]?=some (.cells x.cells 87):=(N.block h (fw d) X).trans d
 have r:∀ k,k<w.heap.size→k≠h→¬x.late.ownBlock=some k→w8.heap[k]?=w.heap[k]?:=fun k hk h1 h2=>by
  rw [he,Below.heap_setCell j ⟨h,2,none⟩ v7 k h1]
  exact N.block k hk h2
 have y:∀ (k:Nat) (C:Array Value) (t:TypeId) (fz:Nat×Nat),w.heap[k]?=some (Obj.cells C t fz)→t≠87→t≠125→w8.heap[k]?=w.heap[k]?:=fun k C t fz hk h1 h2=>r k (fw hk) (fun e=>by
  rw [e,d] at hk
  cases hk
  exact h1 rfl) fun e=>by
   obtain ⟨C',Y,B⟩:=lt k e
   rw [hk] at B
   cases B
   exact h2 rfl
 have D:w8.heap.size=j.heap.size:=by rw [he,size_setCell]
 have hle:w.heap.size≤w8.heap.size:=by rw [D];exact N.size
 have E:∀ k,F k→F k∨(w.heap.size≤k∧k<w8.heap.size):=fun k hk => .inl hk
 have Z:v7.ownBlock≠some h:=fun e=>by
  obtain ⟨C',Y,B⟩:=q h e
  rw [m] at B
  cases B
 have O:∀ b,v7.ownBlock=some b→w8.heap[b]?=j.heap[b]?:=fun b R=>by
  rw [he]
  exact Below.heap_setCell j ⟨h,2,none⟩ v7 b (fun e=>Z (R.trans (bG some e)))
 have G:∀ (v:Value) (b:List UInt8),iP w F v b→iP w8 (fun k=>F k∨(w.heap.size≤k∧k<w8.heap.size)) v b:=fun v b S=>(S.fP fun k C fz hk _=>y k C _ fz hk (by decide) (by decide)).mono E
 refine ⟨⟨⟨?_,hd.left,hd.dead,hd.room,hd.tab.fP (r _ hd.tab.lt (fun e=>hd.tab.jC d e.symm) (lt.o9 hd.tab)),hd.own.frame hle fun k e _ => ?_,hd.ltyp.frame fun k e _ => ?_,hd.lo,hd.lb⟩,l.fail,l.writes,?_,?_,⟨vals++[u],by rw [aq,aq,o];rfl,?_,q.frame fun b e _=>O b e,fun k e => ?_,fun i b I => ?_⟩,l.apart,⟨.inl f1,.inl f2,fun k e => .inl (f3 k e)⟩,fun k hk => ?_⟩,?_⟩
 ·rw [he]
  exact heap_setCell _ _ 2 v7 m
 ·obtain ⟨C,fz,J⟩:=hd.ltyp k e
  exact y k C _ fz J (by decide) (by decide)
 ·obtain ⟨C,fz,J⟩:=hd.ltyp k e
  exact y k C _ fz J (by decide) (by decide)
 ·exact (l.held.mono E).fP hle fun k C t fz hk M _=>y k C t fz hk (by rcases M with rfl | rfl <;> decide) (by rcases M with rfl | rfl <;> decide)
 ·exact (l.seen.mono E).fP hle fun k C t fz hk M _=>y k C t fz hk (by rcases M with rfl | rfl <;> decide) (by rcases M with rfl | rfl <;> decide)
 ·rw [z8 o,show (H.late++[(s,n)]).length=H.late.length+1 by simp]
  exact Q.frame (by omega) fun b e _=>O b e
 ·rcases R k e with U | U
  ·exact .inl (W k U)
  ·right
   obtain ⟨C,fz,J⟩:=q k e
   exact ⟨U,by rw [D];exact fw J⟩
 ·by_cases aa:i<H.late.length
  ·rw [cE aa] at I
   obtain ⟨v,S,ag⟩:=V i b I
   exact ⟨v,by rw [cE (by omega)];exact S,G _ _ ag⟩
  ·have:i=H.late.length:=by
    have:=(aF.1 I).1
    simp at this
    omega
   subst this
   rw [cC (af _),dU] at I
   cases I
   exact ⟨u,by rw [cC (by omega),o,dU];rfl,G _ _ hu⟩
 ·rcases hk with hk | hk
  ·exact ay (l.lt k hk) hle
  ·exact hk.2
 ·rw [he]
  exact (N.mono fun k e=>W k e).setCell _ _ (.inl f1)
theorem nb (h:Nat) (F:Nat→Prop) (H:fx) (w:World) (m:HostAt w F h H) :
  Calls Tryz.prog 201 #[.agg #[.pointer (some ⟨h,0,none⟩)]] w fun e w'=>e = .returned (.int .i64 (H.seen.length:Nat))∧Below w.heap.size w w':=by
 obtain ⟨x,b⟩:=m
 obtain ⟨g,cap,j,-,-⟩:=b.seen.get
 have d:Below w.heap.size w (w.alloc (.cells #[.pointer (some ⟨h,0,none⟩)] 188)):=(Below.refl _ w).alloc (af _) _
 have i:=b.dp.row.fP (d.block h b.dp.row.lt)
 have q:=b.dp.row.lt
 have l:=fA w (.cells #[.pointer (some ⟨h,0,none⟩)] 188)
 have rc:=ae _ _ 0 _ _ _ l
 unfold HostIs HV.cells at i
 rw [j] at i
 have c1:=ae _ _ 1 _ _ _ i
 have o:=ab d
 clear b j i l d
 go_enter Tryz.func201,Tryz.ntmps201
 go_wp2
 go_ret
 exact ⟨rfl,o.out⟩
def jZ (w w':World) (v:Value) (s:Nat):Prop:=∃ b,v = .iface 168 (.pointer (some ⟨b,0,none⟩))∧w.heap.size≤b∧w'.heap[b]?=some (.cells #[.int .i64 ((s:Int)-2)] 171 (0,0))
theorem EN (h:Nat) (F:Nat→Prop) (H:fx) (n:Nat) (w:World) (G:HostAt w F h H) (Q:n<H.seen.length) (_hl:H.seen.length≤1000) (u:H.gy=true) :
  Calls Tryz.prog 200 #[.agg #[.pointer (some ⟨h,0,none⟩)],.int .i64 (n:Nat)] w fun e w'=>∃ v,e = .returned (.tuple #[.slice none 0 0,v])∧jZ w w' v (n+2)∧HostAt w' F h H.asked∧Ext F w w':=by
 obtain ⟨x,b⟩:=G
 obtain ⟨g,cap,y,-,-⟩:=b.seen.get
 have d:Below w.heap.size w (w.alloc (.cells #[.pointer (some ⟨h,0,none⟩)] 188)):=(Below.refl _ w).alloc (af _) _
 have i:=b.frame d.size fun k hk=>d.block k (b.lt k hk)
 have j:=i.dp.row
 have N:=b.dp.row.lt
 have B:=fA w (.cells #[.pointer (some ⟨h,0,none⟩)] 188)
 have rc:=ae _ _ 0 _ _ _ B
 have o:x.fail=0:=by rw [b.fail];simpa [fx.gy] using u
 have C:=ab (lH h x _ j (by omega) (by omega))
 unfold HostIs HV.cells at j
 rw [y] at j
 have c1:=ae _ _ 1 _ _ _ j
 have I:=ab d
 have J:=ab i
 have D:=ab o
 have M:Hid (F h):=ab b.foot.1
 have O:¬H.seen.length≤n:=by omega
 clear b i y j B d u o
 go_enter Tryz.func200,Tryz.ntmps200
 go_wp2_with fail
 refine C.out.mono ?_
 rintro e w1 ⟨rfl,q,r,l⟩
 rw [D.out]
 have s:=ab (J.out.asked q r l)
 have E:=ab l
 clear q l
 go_wp2
 go_ret2
 have m:Below w1.heap.size w1 (w1.alloc (.cells #[.int .i64 (n:Int)] 171)):=(Below.refl _ w1).alloc (af _) _
 refine ⟨_,rfl,⟨_,rfl,dL _,?_⟩,⟨_,s.out.frame m.size fun k hk=>m.block k (s.out.lt k hk)⟩,?_⟩
 ·have h1:=fA w1 (.cells #[.int .i64 (n:Int)] 171)
  rw [r,ax] at h1
  rw [h1,show ((n+2:Nat):Int)-2=(n:Int) by omega]
 ·exact ((Ext.fD I.out).trans (E.out.mono fun k e=>by rw [e];exact M.out)).trans (Ext.fD m)
theorem CS (h:Nat) (F:Nat→Prop) (H:fx) (n:Nat) (b:List UInt8) (w:World) (hh:HostAt w F h H) (E:H.seen[n]?=some b) (_hl:H.seen.length≤1000) (bc:b.length≤1000) (X:H.gy=false) (Y : -1≤H.fail∧H.fail≤9223372036854775807) :
  Calls Tryz.prog 200 #[.agg #[.pointer (some ⟨h,0,none⟩)],.int .i64 (n:Nat)] w fun e w'=>∃ v,e = .returned (.tuple #[v,.nilIface])∧BytesAt w' v b∧CellsOf w' v 5∧(∀ k,v.ownBlock=some k→w.heap.size≤k)∧HostAt w' F h H.asked∧Ext F w w':=by
 obtain ⟨x,j⟩:=hh
 obtain ⟨g,cap,Q,R,r⟩:=j.seen.get
 obtain ⟨g0,off,u,rfl,G,S⟩:=r n b E
 have l:Below w.heap.size w (w.alloc (.cells #[.pointer (some ⟨h,0,none⟩)] 188)):=(Below.refl _ w).alloc (af _) _
 have s:=j.frame l.size fun k hk=>l.block k (j.lt k hk)
 have y:=s.dp.row
 have bd:=j.dp.row.lt
 have U:=fA w (.cells #[.pointer (some ⟨h,0,none⟩)] 188)
 have rc:=ae _ _ 0 _ _ _ U
 have I:decide (x.fail=0)=false:=by rw [j.fail];exact X
 have Z:=ab (lH h x _ y (by rw [j.fail];omega) (by rw [j.fail];omega))
 unfold HostIs HV.cells at y
 rw [Q] at y
 have c1:=ae _ _ 1 _ _ _ y
 have bi:n<H.seen.length:=(aF.1 E).1
 have bk:¬H.seen.length≤n:=by omega
 have HB:=ab l
 have HX:=ab s
 have aa:=ab I
 have HF:Hid (F h):=ab j.foot.1
 have J:=ab Q
 have HN:=ab E
 have ag:=ab U
 clear j s Q y U l X I Y E r G S R
 go_enter Tryz.func200,Tryz.ntmps200
 go_wp2_with fail
 refine Z.out.mono ?_
 rintro e w1 ⟨rfl,M,ak,m⟩
 rw [aa.out]
 have o:=ab (HX.out.asked M ak m)
 have al:w.heap.size≠h:=by omega
 have V:=m.at al ag.out
 have N:Hid (Ext F w w1):=ab ((Ext.fD HB.out).trans (m.mono fun k e=>by rw [e];exact HF.out))
 have d:=o.out.dp.row
 unfold HostIs HV.cells at d
 simp only at d
 rw [J.out] at d
 have d1:=ae _ _ 1 _ _ _ d
 have rd:=ae _ _ 0 _ _ _ V
 have bl:=fw d
 have bn:=fw V
 obtain ⟨g',cap',O,-,q⟩:=o.out.seen.get
 obtain ⟨am,W,u',e1,av,B⟩:=q n b HN.out
 have e2:(Value.slice (some ⟨g0,off,none⟩) H.seen.length cap) = .slice g' H.asked.seen.length cap':=J.out.symm.trans O
 obtain ⟨rfl,-,rfl⟩:=Value.slice.inj e2
 obtain ⟨rfl,rfl⟩:g0=am∧off=W:=by cases e1;exact ⟨rfl,rfl⟩
 have a0:=ab B.1
 have bo:=fE av
 have a9:=N.out.size
 obtain ⟨a2,k2,rfl,-,-⟩:=B.1.opened
 clear rc c1 M m V d O q e1 e2 B
 go_wp2_with (at_builtin;refine jL rfl _ (.tmp 34) rfl w1.heap.size (.slice none 0 0) 0 [] rfl (OwnS.nil _ _ _) (CellsOf.nil _ _) b (by exact a0.out) (by omega) (af _) ?_;intro v2 w2 i _ C D;obtain ⟨sa,sc,rfl⟩:=i.shape)
 go_ret2
 simp only [aO,bE] at i C
 refine ⟨.slice sa b.length sc,rfl,i.bytes,C,fun k e => ?_,⟨_,o.out.frame D.size fun k hk=>D.block k (o.out.lt k hk)⟩,N.out.trans (Ext.fD D)⟩
 have:=i.fL k e
 omega
end Go.Proofs.YtkkfmkhbdoeglaaGreatDoor
