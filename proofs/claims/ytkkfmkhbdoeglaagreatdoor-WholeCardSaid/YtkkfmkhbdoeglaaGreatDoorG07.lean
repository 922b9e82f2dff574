/- A part of what is proved here: lemmas and contracts of single functions. No condition but those that each names. -/
import Derived.Test.YtkkfmkhbdoeglaaGreatDoorG00
import Derived.LoopIn
import Derived.TacticsInMore
import Derived.Test.YtkkfmkhbdoeglaaGreatDoorG02
import Derived.Test.YtkkfmkhbdoeglaaGreatDoorG05
import Derived.Test.YtkkfmkhbdoeglaaGreatDoorG06
set_option maxHeartbeats 1000000
set_option maxRecDepth 100000
namespace Go.Proofs.YtkkfmkhbdoeglaaGreatDoor
def applySel {α:Type} (b:Nat→Bool):Nat→List (α×Nat)→List α→List α
 | _,[],d=>d
 | k,(p,n)::l,d=>applySel b (k+1) l (if b k then d.set n p else d)
theorem rQ {α β:Type} (f : α→β) (b:Nat→Bool):∀ (k:Nat) (l:List (α×Nat)) (d:List α),(applySel b k l d).map f=applySel b k (l.map fun x=>(f x.1,x.2)) (d.map f)
 | _,[],d=>rfl
 | k,(p,n)::l,d=>by
  rw [bq]
  unfold applySel
  rw [rQ f b (k+1) l]
  congr 1
  split
  ·rw [cZ]
  ·rfl
theorem jW {α:Type} (b:Nat→Bool):∀ (k:Nat) (l:List (α×Nat)) (d:List α),(applySel b k l d).length=d.length
 | _,[],d=>rfl
 | k,(p,n)::l,d=>by
  unfold applySel
  rw [jW b (k+1) l]
  split
  ·rw [b9]
  ·rfl
theorem mV {α:Type} (b:Nat→Bool):∀ (k:Nat) (i:List α) (at':Nat) (d:List α),at'+i.length≤d.length→∀ j,(applySel b k (i.zipIdx at') d)[j]?=if at'≤j∧j<at'+i.length∧b (k+(j-at'))=true then i[j-at']? else d[j]?
 | k,[],at',d,_,j=>by
  rw [aw (by simp;omega)]
  rfl
 | k,q::i,at',d,h,j=>by
  rw [List.zipIdx_cons]
  unfold applySel
  rw [au] at h
  rw [mV b (k+1) i (at'+1) _ (by split <;> (try rw [b9]) <;> omega) j]
  by_cases s:j=at'
  ·subst s
   rw [aw (by omega),ef,cC]
   by_cases hs:b k=true
   ·rw [aF hs,aF ⟨ah _,by rw [au];omega,hs⟩,ea (by omega)]
    rfl
   ·rw [aw hs,aw (fun h=>hs h.2.2)]
  ·have r:(if b k=true then d.set at' q else d)[j]?=d[j]?:=by
    split
    ·rw [ew (by omega)]
    ·rfl
   rw [r]
   by_cases u:j<at'
   ·rw [aw (by omega),aw (by omega)]
   ·obtain ⟨m,rfl⟩:∃ m,j=at'+1+m:=⟨j-(at'+1),by omega⟩
    rw [show at'+1+m-(at'+1)=m by omega,show at'+1+m-at'=m+1 by omega,show k+1+m=k+(m+1) by omega,aY,au]
    have l:(at'+1≤at'+1+m∧at'+1+m<at'+1+i.length∧b (k+(m+1))=true)↔(at'≤at'+1+m∧at'+1+m<at'+(i.length+1)∧b (k+(m+1))=true) :=
     ⟨fun ⟨h1,h2,h3⟩=>⟨by omega,by omega,h3⟩,fun ⟨h1,h2,h3⟩=>⟨by omega,by omega,h3⟩⟩
    by_cases o:at'+1≤at'+1+m∧at'+1+m<at'+1+i.length∧b (k+(m+1))=true
    ·rw [aF o,aF (l.1 o)]
    ·rw [aw o,aw fun h=>o (l.2 h)]
theorem Ar {d ps:List Part} {at' m:Nat} (b:Nat→Bool) (h:at'+ps.length≤d.length):mP d (applySel b 0 ((ps.take m).zipIdx at') d) at' ps:=by
 have hl:(ps.take m).length≤ps.length:=by rw [aA];omega
 refine ⟨jW _ _ _ _,fun j => ?_⟩
 rw [mV b 0 (ps.take m) at' d (by omega) j]
 split
 ·rename_i hc
  refine .inr ⟨hc.1,by omega,?_⟩
  have:=hc.2.1
  rw [aA] at this
  rw [bp (by omega)]
 ·exact .inl rfl
theorem Ca {d ps:List Part} {at':Nat} (h:at'+ps.length≤d.length):lu (applySel (fun _=>true) 0 (ps.zipIdx at') d) at' ps:=by
 intro i b
 rw [mV _ 0 ps at' d h (at'+i),aF ⟨by omega,by omega,rfl⟩,Nat.add_sub_cancel_left]
def parseSec (b:List UInt8):Part:=⟨iL (b.take 8),(b.getD 8 0).toNat,(b.getD 9 0).toNat,decide ((b.getD 10 0).toNat≤53),(b.drop 11).take (b.getD 10 0).toNat⟩
def jm (s i n:Nat) (c:List UInt8):List UInt8:=j4 s++[UInt8.ofNat i,UInt8.ofNat n,UInt8.ofNat c.length]++c
def ju (b:List UInt8):List UInt8:=b++List.replicate (64-b.length) 0
theorem pJ (s i n:Nat) (c:List UInt8):(jm s i n c).length=11+c.length:=by
 unfold jm
 rw [ar,ar,fY]
 rfl
theorem mr {b:List UInt8} (h:b.length≤64):(ju b).length=64:=by
 unfold ju
 rw [ar,bG]
 omega
theorem xU {s i n:Nat} {c:List UInt8} (hs:s<18446744073709551616) (m:i<256) (o:n<256) (hc:c.length≤53):parseSec (ju (jm s i n c))=⟨s,i,n,true,c⟩:=by
 obtain ⟨b,d⟩:∃ b,b=List.replicate (64-(jm s i n c).length) (0:UInt8):=⟨_,rfl⟩
 have e:ju (jm s i n c)=j4 s++(UInt8.ofNat i::UInt8.ofNat n::UInt8.ofNat c.length::(c++b)):=by
  unfold ju
  rw [←d]
  unfold jm
  simp
 have h8:=fY s
 have g:∀ j,(j4 s++(UInt8.ofNat i::UInt8.ofNat n::UInt8.ofNat c.length::(c++b))).getD (8+j) 0=(UInt8.ofNat i::UInt8.ofNat n::UInt8.ofNat c.length::(c++b)).getD j 0:=fun j=>by
  rw [aP,cG (by omega),show 8+j-(j4 s).length=j by omega,←aP]
 have g0:=g 0
 have g1:=g 1
 have g2:=g 2
 simp only [cC,Nat.reduceAdd,List.getD_cons_zero,List.getD_cons_succ] at g0 g1 g2
 have l:(UInt8.ofNat c.length).toNat=c.length:=by simp;omega
 unfold parseSec
 rw [e,g0,g1,g2,eG (by omega),aS (by omega),sw s hs,l]
 have hd:(j4 s++(UInt8.ofNat i::UInt8.ofNat n::UInt8.ofNat c.length::(c++b))).drop 11=c++b:=by
  rw [List.drop_append,fE (by omega),show 11-(j4 s).length=3 by omega]
  rfl
 rw [hd,eG (by omega),aS (by omega)]
 have h1:(UInt8.ofNat i).toNat=i:=by simp;omega
 have h2:(UInt8.ofNat n).toNat=n:=by simp;omega
 rw [h1,h2]
 simp [hc]
def partsOf (len:Nat):Nat:=(len+52) / 53
def jt (data:List UInt8) (i:Nat):List UInt8:=(data.drop (53*i)).take 53
def gj (s:Nat) (data:List UInt8):List (List UInt8):=(List.range (partsOf data.length)).map fun i=>ju (jm s i (partsOf data.length) (jt data i))
theorem iU (s:Nat) (data:List UInt8):(gj s data).length=partsOf data.length:=by simp [gj]
theorem oX (data:List UInt8) (i:Nat):(jt data i).length≤53:=by
 unfold jt
 rw [aA]
 omega
theorem tF (data:List UInt8):∀ n,(List.range n).flatMap (jt data)=data.take (53*n)
 | 0=>by simp
 | n+1=>by
  rw [List.range_succ,eA,tF data n,cQ,List.flatMap_nil,cN]
  unfold jt
  rw [show 53*(n+1)=53*n+53 by omega,List.take_add]
theorem CE {s:Nat} {data:List UInt8} (hs:s<18446744073709551616) (l:0<data.length) (j:partsOf data.length<256):oy s ((gj s data).map parseSec) data:=by
 have d:∀ i,i<partsOf data.length→((gj s data).map parseSec)[i]?=some ⟨s,i,partsOf data.length,true,jt data i⟩:=fun i b=>by
  unfold gj
  rw [List.map_map,bh,List.getElem?_range b]
  show some (parseSec _)=_
  rw [xU hs (by omega) j (oX _ _)]
 have hlen:((gj s data).map parseSec).length=partsOf data.length:=by rw [aH,iU]
 refine ⟨by rw [hlen];unfold partsOf;omega,fun i p h => ?_,?_⟩
 ·have b:=(aG.1 h).1
  rw [hlen] at b
  rw [d i b] at h
  cases h
  exact ⟨rfl,rfl,hlen.symm,rfl⟩
 ·have e:((gj s data).map parseSec).flatMap (·.data)=(List.range (partsOf data.length)).flatMap (jt data):=by
   rw [vE,hlen]
   refine lX fun i b => ?_
   rw [aP,d i (cV.1 b)]
   rfl
  rw [e,tF,aS]
  unfold partsOf
  omega
def placeOf (n:Nat):Nat:=(16*(n-8)+62) / 53
theorem jf {n:Nat} (h1:32≤n) (h2:n≤128):8≤placeOf n∧placeOf n≤37∧2*placeOf n+16≤n:=by
 unfold placeOf
 omega
theorem mB {len n:Nat} (h:len≤10+16*(n-8)):partsOf len≤placeOf n:=by
 unfold partsOf placeOf
 omega
def stampsLe (d:List (List UInt8)) (s:Nat):Prop:=∀ b∈d,(parseSec b).stamp≤s
theorem stampsLe.fresh {d:List (List UInt8)} {s:Nat} (h:stampsLe d s):∀ b∈d.map parseSec,b.stamp<s+1:=by
 intro b i
 obtain ⟨x,j,rfl⟩:=aB.1 i
 have:=h x j
 omega
theorem stampsLe.apply {d:List (List UInt8)} {s:Nat} {data:List UInt8} (h:stampsLe d s) (hs:s+1<18446744073709551616) (q:partsOf data.length<256) (o:Nat→Bool) (m at':Nat) (hl:at'+partsOf data.length≤d.length):stampsLe (applySel o 0 (((gj (s+1) data).take m).zipIdx at') d) (s+1):=by
 intro b r
 obtain ⟨j,l⟩:=List.mem_iff_getElem?.1 r
 have hlen:((gj (s+1) data).take m).length≤partsOf data.length:=by rw [aA,iU];omega
 rw [mV o 0 _ at' d (by omega) j] at l
 split at l
 ·have hm:=dA (aZ l)
  unfold gj at hm
  obtain ⟨i,u,rfl⟩:=aB.1 hm
  have:=cV.1 u
  rw [xU hs (by omega) q (oX _ _)]
  exact ah _
 ·have:=h b (aZ l)
  omega
def iE:List UInt8:=List.replicate 64 0
theorem vV:(parseSec iE).stamp=0:=by decide
theorem Gm {T O:Type} (decS:List UInt8→Option (Nat×T)) (decD:List UInt8→Option (Nat×O)) (app:T→O→T) (t0:T) (n p:Nat):DiskInv decS decD app t0 ((List.replicate n iE).map parseSec) p 0 0 t0 (2*p):=by
 have l:∀ b∈(List.replicate n iE).map parseSec,b.stamp=0:=fun b j=>by
  obtain ⟨x,o,rfl⟩:=aB.1 j
  rw [(List.mem_replicate.1 o).2]
  exact vV
 have d:∀ m i x,¬WholeAt (((List.replicate n iE).map parseSec).take m) i x:=fun m i x h=>by
  obtain ⟨b,j,e⟩:=h.qR
  obtain ⟨k,-,q,-⟩:=h
  exact q (by rw [←e];exact l b (dA j))
 refine ⟨0,0,t0,[],0,.inl ⟨rfl,rfl,rfl,rfl,fun s x _=>d _ _ x⟩,.nil _ _ _ _,fun i x _ h => ?_⟩
 have:=d n i x
 rw [aS (by simp)] at this
 exact absurd h this
end Go.Proofs.YtkkfmkhbdoeglaaGreatDoor
namespace Go.Proofs.YtkkfmkhbdoeglaaGreatDoor
structure fJ where
 held:List (List UInt8)
 seen:List (List UInt8)
 late:List (List UInt8×Nat)
 fail:Int
 writes:Int
 dp:DpS
def fJ.asked (H:fJ):fJ := {H with fail:=if H.fail<0 then H.fail else H.fail-1}
def fJ.gW (H:fJ):Bool:=decide (H.fail=0)
def fJ.read (H:fJ) (n:Nat):fJ×Option (List UInt8):=(H.asked,if H.gW then none else H.seen[n]?)
def fJ.write (H:fJ) (n:Nat) (s:List UInt8):fJ×Option Nat :=
 if H.gW then (H.asked,some (n+2))
 else ({H.asked with writes:=H.writes+1,seen:=H.seen.set n s,dp:=H.dp.stop,late:=if H.dp.stop.dead then H.late else H.late++[(s,n)]},none)
def fJ.flush (H:fJ):fJ×Option Nat :=
 if H.gW then (H.asked,some 1)
 else if H.dp.stop.dead then ({H.asked with dp:=H.dp.stop},none)
 else ({H.asked with dp:=H.dp.stop,held:=applySel (fun _=>true) 0 H.late H.held,late:=[]},none)
def gD:List (List UInt8)→fJ→Nat→fJ×Option Nat
 | [],H,_=>(H,none)
 | s::l,H,at'=>match H.write at' s with
  | (H1,some f)=>(H1,some f)
  | (H1,none)=>gD l H1 (at'+1)
end Go.Proofs.YtkkfmkhbdoeglaaGreatDoor
namespace Go.Proofs.YtkkfmkhbdoeglaaGreatDoor
open Go.RowKit
def CellsOf (w:World) (v:Value) (e:TypeId):Prop:=∀ b,v.ownBlock=some b→∃ C fz,w.heap[b]?=some (.cells C e fz)
theorem rp (g:Nat):∀ (d:List Value) (o:Nat) (w:World) {C:Array Value} {e:TypeId} {fz:Nat×Nat},w.heap[g]?=some (.cells C e fz)→∃ b,(w.setCells g o d).heap[g]?=some (.cells b e fz)
 | [],_,_,C,_,_,h=>⟨C,h⟩
 | v::d,o,w,C,e,fz,h=>by
  simp only [World.setCells]
  have h1:∃ b,(w.setCell ⟨g,o,none⟩ v).heap[g]?=some (.cells b e fz):=by
   obtain ⟨i,hk⟩:=cx.1 h
   have j:(w.setCell ⟨g,o,none⟩ v).heap[g]?=some ((w.setCell ⟨g,o,none⟩ v).heap[g]'(by rw [size_setCell];exact i)):=cz _
   rw [j]
   simp only [World.setCell,Array.getElem_modify_self,hk]
   exact ⟨_,rfl⟩
  obtain ⟨b,h1⟩:=h1
  exact rp g d (o+1) _ h1
theorem jE {P:Program} (w:World) (base:Nat) (t r ty e:TypeId) (i:TypeInfo) (z:Value) (D:P.underlying t=some (.slice e)) (E:P.info? e=some i) (R:i.zero=some z) (S:z.cells.size=i.size) (U:0<i.size)
  (v:Value) (n:Nat) (xs:List Value) (s:OwnS w base i.size v n xs) (Y:CellsOf w v e) (x:Value) (m:Nat) (news:List Value) (hs:Src P i.size r x m news w)
  (V:n+m≤maxLen) (l:(n+m)*i.bytes≤140737488355328) (F:base≤w.heap.size) :
  ∃ v' w',(Builtin.append_ #[t,r] ty #[v,x]).run P w = .ok v' w'∧OwnS w' base i.size v' (n+m) (xs++news)∧w.grownBy w' v.ownBlock∧CellsOf w' v' e:=by
 have hmx:maxLen=9223372036854775807:=rfl
 obtain ⟨v',w',G,h1,h2,h3⟩:=jT (P:=P) w base t r ty e i z D E R S U v n xs s x m news hs V l F
 refine ⟨v',w',G,h1,h2,?_⟩
 rcases h3 with ⟨g,off,cap,rfl,rfl,rfl⟩ | rfl | ⟨cap',rfl,-⟩
 ·intro b y
  obtain rfl:g=b:=by simpa [Value.ownBlock] using y
  obtain ⟨C,fz,Z⟩:=Y g rfl
  obtain ⟨C',W⟩:=rp g news (off+n*i.size) w Z
  exact ⟨C',fz,W⟩
 ·intro b y
  simp [Value.ownBlock] at y
 ·have key:∀ (d:Option Addr) (fW:Nat),v = .slice d n fW→fW<n+m→(Builtin.firstCells i.size n (.slice d n fW)).run P w.drew = .ok xs.toArray w.drew→CellsOf w' (.slice (some ⟨w.heap.size,0,none⟩) (n+m) cap') e:=by
   intro d fW M X N
   subst M
   have B:=run_append_grow_src (P:=P) w t r ty e i z D E R d n fW xs N x m news hs X (by omega) (growslice_fits X l)
   have hw:=G.symm.trans B
   injection hw with _ hw
   subst hw
   intro b y
   obtain rfl:w.heap.size=b:=by simpa [Value.ownBlock] using y
   exact ⟨_,_,fL w.drew _⟩
  obtain ⟨J,⟨rfl,rfl⟩ | ⟨g,off,cap,rfl,ak,al,am,ap,I,o⟩⟩:=s
  ·have hx:xs=[]:=bK (by simpa using J)
   subst hx
   by_cases hm:m=0
   ·subst hm
    have hn:news=[]:=bK (by simpa using hs.newsLen)
    subst hn
    have hl:=hs.len w
    have hc:=hs.cells
    have O:(Builtin.append_ #[t,r] ty #[.slice none 0 0,x]).run P w = .ok (.slice none 0 0) w:=by
     rcases hs.kind with ⟨e',hk⟩ | hk <;> simp [Builtin.append_,aN D,aN hk,sizeOf,typeInfo,E,hl,hc]
    have hw:=G.symm.trans O
    cases hw
   ·exact key none 0 rfl (by omega) (ff w.drew i.size 0 0 0)
  ·by_cases q:n+m≤cap
   ·have av:n*i.size+news.length≤cap*i.size:=by rw [hs.newsLen,←Nat.add_mul];exact cS _ q
    have hc:∀ j,j<news.length→(w.cell? ⟨g,off+n*i.size+j,none⟩).isSome=true:=fun j Q=>by
     have:=(o (n*i.size+j) (by omega)).1
     rw [aW];exact this
    have N:∀ j,j<news.length→w.frozen? ⟨g,off+n*i.size+j,none⟩=false:=fun j Q=>by
     have:=(o (n*i.size+j) (by omega)).2
     rw [aW];exact this
    have B:=run_append_room_src (P:=P) w t r ty e i D E g off n cap x m news hs q hc N
    have hw:=G.symm.trans B
    injection hw with hw _
    injection hw with hw _
    injection hw with hw
    injection hw with hw
    omega
   ·refine key (some ⟨g,off,none⟩) cap rfl (by omega) (run_firstCells_some w.drew i.size n ⟨g,off,none⟩ n cap xs J (fun j u hu => ?_))
    obtain ⟨Q,M⟩:=aG.1 hu
    rw [←M]
    rw [eW]
    exact I j Q
theorem pA {P:Program} {ops:Array Oper} {rest:List Oper} {o:Oper} {a:Act} {Q:Exit→Act→World→Prop} {w:World} (q:o.guard=none) (s x:Operand) (t j:TypeId)
  (B:o.op = .call {callee := .builtin .append,args:=#[s,x],argTypes:=#[t,j]})
  (base k:Nat) (e:TypeId) (i:TypeInfo) (z:Value) (C:P.underlying t=some (.slice e)) (D:P.info? e=some i) (E:i.zero=some z) (hk:i.size=k) (r:z.cells.size=i.size) (u:0<i.size)
  (v:Value) (n:Nat) (xs:List Value) (F:a.eval s=v) (l:OwnS w base k v n xs) (G:CellsOf w v e) (m:Nat) (news:List Value) (hs:Src P k j (a.eval x) m news w)
  (y:n+m≤maxLen) (b:(n+m)*i.bytes≤140737488355328) (d:base≤w.heap.size)
  (h:∀ v' w',OwnS w' base k v' (n+m) (xs++news)→w.grownBy w' v.ownBlock→CellsOf w' v' e→wpList P ops Q rest (a.put o.dst v') w'):wpList P ops Q (o::rest) a w:=by
 subst hk
 obtain ⟨v',w',I,h1,h2,h3⟩:=jE (P:=P) w base t j o.type e i z C D E r u v n xs l G (a.eval x) m news hs y b d
 refine fc q fun K hK => ?_
 unfold Oper.wp execOp
 simp only [B,resolve,invoke,builtin,bY,fG,bQ,eF,bq,du,F,I]
 exact hK _ _ (h v' w' h1 h2 h3)
theorem kY {F:Fence} (hF:∀ f,F.fn f) {nF:Nat} {P:Program} {ops:Array Oper} {rest:List Oper} {o:Oper} {a:Act} {Q:Exit→Act→World→Prop} {w:World} (q:o.guard=none) (s x:Operand) (t j:TypeId)
  (r:o.op = .call {callee := .builtin .append,args:=#[s,x],argTypes:=#[t,j]})
  (base k:Nat) (e:TypeId) (i:TypeInfo) (z:Value) (C:P.underlying t=some (.slice e)) (D:P.info? e=some i) (E:i.zero=some z) (hk:i.size=k) (u:z.cells.size=i.size) (y:0<i.size)
  (v:Value) (n:Nat) (xs:List Value) (G:a.eval s=v) (l:OwnS w base k v n xs) (I:CellsOf w v e) (m:Nat) (news:List Value) (hs:Src P k j (a.eval x) m news w)
  (B:n+m≤maxLen) (b:(n+m)*i.bytes≤140737488355328) (d:base≤w.heap.size)
  (h:∀ v' w',OwnS w' base k v' (n+m) (xs++news)→w.grownBy w' v.ownBlock→CellsOf w' v' e→wpListIn F nF P ops Q rest (a.put o.dst v') w'):wpListIn F nF P ops Q (o::rest) a w:=by
 subst hk
 obtain ⟨v',w',J,h1,h2,h3⟩:=jE (P:=P) w base t j o.type e i z C D E u y v n xs l I (a.eval x) m news hs B b d
 refine wpListIn_plain q fun K hK => ?_
 unfold Oper.wpIn
 refine ⟨fun f _=>hF f,?_⟩
 rw [Oper.semAt_eq _ _ _ (fun c hc=>by rw [r] at hc;cases hc)]
 unfold execOp
 simp only [r,resolve,invoke,builtin,bY,fG,bQ,eF,bq,du,G,J]
 exact hK _ _ (h v' w' h1 h2 h3)
theorem rN {P:Program} {o:Oper} {a:Act} {K:Act→World→Prop} {Q:Exit→Act→World→Prop} {w:World} (s x:Operand) (t j:TypeId)
  (y:o.op = .call {callee := .builtin .append,args:=#[s,x],argTypes:=#[t,j]})
  (base k:Nat) (e:TypeId) (i:TypeInfo) (z:Value) (B:P.underlying t=some (.slice e)) (C:P.info? e=some i) (D:i.zero=some z) (hk:i.size=k) (q:z.cells.size=i.size) (r:0<i.size)
  (v:Value) (n:Nat) (xs:List Value) (E:a.eval s=v) (l:OwnS w base k v n xs) (F:CellsOf w v e) (m:Nat) (news:List Value) (hs:Src P k j (a.eval x) m news w)
  (u:n+m≤maxLen) (b:(n+m)*i.bytes≤140737488355328) (d:base≤w.heap.size)
  (h:∀ v' w',OwnS w' base k v' (n+m) (xs++news)→w.grownBy w' v.ownBlock→CellsOf w' v' e→K (a.put o.dst v') w'):o.wp P a w K Q:=by
 subst hk
 obtain ⟨v',w',G,h1,h2,h3⟩:=jE (P:=P) w base t j o.type e i z B C D q r v n xs l F (a.eval x) m news hs u b d
 unfold Oper.wp execOp
 simp only [y,resolve,invoke,builtin,bY,fG,bQ,eF,bq,du,E,G]
 exact h v' w' h1 h2 h3
end Go.Proofs.YtkkfmkhbdoeglaaGreatDoor
namespace Go.Proofs.YtkkfmkhbdoeglaaGreatDoor
open Go.RowKit
theorem CellsOf.alloc {w:World} {v:Value} {e:TypeId} (h:CellsOf w v e) (o:Obj):CellsOf (w.alloc o) v e:=fun b d=>by
 obtain ⟨C,fz,i⟩:=h b d
 exact ⟨C,fz,fQ w o i⟩
theorem CellsOf.nil (w:World) (e:TypeId):CellsOf w (.slice none 0 0) e:=fun b d=>by simp [Value.ownBlock] at d
theorem kc {ops:Array Oper} {rest:List Oper} {o:Oper} {a:Act} {Q:Exit→Act→World→Prop} {w:World} (j:o.guard=none) (s x:Operand)
  (u:o.op = .call {callee := .builtin .append,args:=#[s,x],argTypes:=#[59,59]})
  (base:Nat) (v:Value) (n:Nat) (l:List UInt8) (y:a.eval s=v) (d:OwnS w base 1 v n (u8s l)) (B:CellsOf w v 5) (m:List UInt8) (hs:BytesAt w (a.eval x) m)
  (hlen:n+m.length≤140737488355328) (b:base≤w.heap.size)
  (h:∀ v' w',OwnS w' base 1 v' (n+m.length) (u8s (l++m))→w.grownBy w' v.ownBlock→CellsOf w' v' 5→Below base w w'→
   wpList Tryz.prog ops Q rest (a.put o.dst v') w'):wpList Tryz.prog ops Q (o::rest) a w:=by
 obtain ⟨i0,C,q,i,r⟩:=dP p7
 have hmx:maxLen=9223372036854775807:=rfl
 refine pA j s x _ _ u base 1 5 i0 (.int .u8 0) Tryz.underlying59 C q i (by rw [i];rfl) (by omega) v n (u8s l) y d B m.length (u8s m) (fR.src Tryz.underlying59 hs (oc m)) (by omega) (by rw [r];omega) b (fun v' w' h1 h2 h3 => ?_)
 rw [←jV] at h1
 exact h v' w' h1 h2 h3 (iv d h2 b)
theorem tU (base:Nat) (bv:Value) (l:List UInt8) (v:Nat) (w:World) (s:OwnS w base 1 bv l.length (u8s l)) (D:CellsOf w bv 5) (C:base≤w.heap.size) (hl:l.length≤gx) (_hv:v<18446744073709551616) :
  Calls Tryz.prog 113 #[bv,.int .u64 v] w fun e w'=>∃ d,e = .returned d∧OwnS w' base 1 d (l.length+8) (u8s (l++j4 v))∧CellsOf w' d 5∧Below base w w':=by
 unfold gx at hl
 go_enter Tryz.func113,Tryz.ntmps113
 go_wp2
 go_loopw [0,6] (fun x i wr=>∃ k:Nat,k≤8∧i = .int .i64 k∧OwnS wr base 1 x (l++(j4 v).take k).length (u8s (l++(j4 v).take k))∧CellsOf wr x 5∧Below base w wr) (fun _ i _=>8-(intOf i).toNat)
 case atStart=>exact ⟨0,by omega,rfl,by simpa using s,D,Below.refl _ _⟩
 case round =>
  obtain ⟨k,hk,rfl,b,q,j⟩:=hrel
  have r:=ae q
  clear q
  by_cases h8:k<8
  ·have u:((UInt8.ofNat (v / 2^(56-8*k))).toNat:Int)=(v:Int) / 2^(56-8*k)%256:=by simp
   have m:=pc wr (UInt8.ofNat (v / 2^(56-8*k)))
   rw [u] at m
   have E:=j.size
   have H:=ae (zH v k h8)
   have I:=ae u
   clear u
   have F:(k:Int)<8:=by omega
   have G:(l++(j4 v).take k).length≤140737488355100:=by rw [ar,aA,fY];omega
   go_wp2_with (at_builtin;refine kc rfl (.tmp 9) (.tmp 16) rfl base _ _ (l++(j4 v).take k) rfl (b.below ((Below.refl _ wr).alloc (ah _) _)) (r.out.alloc _) [UInt8.ofNat (v / 2^(56-8*k))] m (by simp only [au,aJ];omega) (by simp;omega) ?_;intro v1 w1 o _ y B)
   go_roundw
   case rel =>
    refine ⟨k+1,by omega,by go_num,?_,y,(j.alloc (by omega) _).trans B⟩
    rw [H.out,←bg]
    rw [ar]
    exact o
   case measure=>simp [intOf];omega
  ·obtain rfl:k=8:=by omega
   rw [aS (by rw [fY];omega)] at b
   go_wp2
   go_ret
   refine ⟨_,rfl,?_,r.out,j⟩
   rw [ar,fY] at b
   exact b
theorem lp {ops:Array Oper} {o:Oper} {a:Act} {K:Act→World→Prop} {Q:Exit→Act→World→Prop} {E:Prop} {w:World} (j:o.guard=none) (s x:Operand)
  (u:o.op = .call {callee := .builtin .append,args:=#[s,x],argTypes:=#[59,59]})
  (base:Nat) (v:Value) (n:Nat) (l:List UInt8) (y:a.eval s=v) (d:OwnS w base 1 v n (u8s l)) (B:CellsOf w v 5) (m:List UInt8) (hs:BytesAt w (a.eval x) m)
  (hlen:n+m.length≤140737488355328) (b:base≤w.heap.size)
  (h:∀ v' w',OwnS w' base 1 v' (n+m.length) (u8s (l++m))→w.grownBy w' v.ownBlock→CellsOf w' v' 5→Below base w w'→
   K (a.put o.dst v') w'):if Region.wanted o (yielded ops a.tmps)=true then Oper.wp Tryz.prog o a w K Q else E:=by
 have hw:Region.wanted o (yielded ops a.tmps)=true:=by simp [Region.wanted,j]
 rw [aF hw]
 obtain ⟨i0,C,q,i,r⟩:=dP p7
 have hmx:maxLen=9223372036854775807:=rfl
 refine rN s x _ _ u base 1 5 i0 (.int .u8 0) Tryz.underlying59 C q i (by rw [i];rfl) (by omega) v n (u8s l) y d B m.length (u8s m) (fR.src Tryz.underlying59 hs (oc m)) (by omega) (by rw [r];omega) b (fun v' w' h1 h2 h3 => ?_)
 rw [←jV] at h1
 exact h v' w' h1 h2 h3 (iv d h2 b)
end Go.Proofs.YtkkfmkhbdoeglaaGreatDoor
namespace Go.Proofs.YtkkfmkhbdoeglaaGreatDoor
open Go.RowKit
structure HV where
 held:Value
 seen:Value
 late:Value
 left:Int
 fail:Int
 dead:Bool
 writes:Int
 r0:Int
 r1:Int
 r2:Int
 r:Nat
 log:Value
def HV.cells (x:HV):Array Value:=#[x.held,x.seen,x.late,.int .i64 x.left,.int .i64 x.fail,.bool x.dead,.int .i64 x.writes,.int .i64 x.r0,.int .i64 x.r1,.int .i64 x.r2,.map (some x.r),x.log]
def HostIs (w:World) (h:Nat) (x:HV):Prop:=w.heap[h]?=some (.cells x.cells 87)
def HV.stop (x:HV):HV := {x with left:=if 0<x.left then x.left-1 else x.left,dead:=x.dead || decide (x.left=0)}
def HV.room (x:HV):Nat→Int
 | 0=>x.r0
 | 1=>x.r1
 | _=>x.r2
theorem HostIs.fW {w w':World} {h:Nat} {x:HV} (b:HostIs w h x) (d:w'.heap[h]?=w.heap[h]?):HostIs w' h x:=d.trans b
theorem HostIs.lt {w:World} {h:Nat} {x:HV} (b:HostIs w h x):h<w.heap.size:=fI b
def strsV (l:List (List UInt8)):List Value:=l.map fun s => .string ⟨s.toArray⟩
theorem pq (l m:List (List UInt8)):strsV (l++m)=strsV l++strsV m:=bC
structure DpAt (w:World) (base h:Nat) (x:HV) (d:DpS):Prop where
 row:HostIs w h x
 left:x.left=d.left
 dead:x.dead=d.dead
 room:x.room=d.room
 tab:TabAt w x.r d.S
 own:OwnS w base 1 x.log d.log.length (strsV d.log)
 ltyp:CellsOf w x.log 9
 lo:base≤h∧base≤x.r
 lb : -1≤d.left∧d.left≤9223372036854775807
theorem nX (h:Nat) (x:HV) (w:World) (m:HostIs w h x) (lo : -1≤x.left) (B:x.left≤9223372036854775807) :
  Calls Tryz.prog 203 #[.pointer (some ⟨h,0,none⟩)] w fun e w'=>e = .returned (.bool x.stop.dead)∧HostIs w' h x.stop∧w'.heap.size=w.heap.size∧Ext (fun i=>i=h) w w':=by
 obtain ⟨a0,a1,a2,n,s,b,wr,r0,r1,r2,r,lv⟩:=x
 unfold HV.stop
 unfold HostIs HV.cells at m
 simp only at lo B m⊢
 have E:=ae m
 have c3:=af _ _ 3 _ _ _ m
 have c5:=af _ _ 5 _ _ _ m
 have f3:=ao _ _ 3 _ _ m
 have f5:=ao _ _ 5 _ _ m
 have D:=fI m
 have q:∀ v:Value,Hid ((w.setCell ⟨h,5,none⟩ v).heap[h]?=some (.cells #[a0,a1,a2,.int .i64 n,.int .i64 s,v,.int .i64 wr,.int .i64 r0,.int .i64 r1,.int .i64 r2,.map (some r),lv] 87)∧(w.setCell ⟨h,5,none⟩ v).heap.size=w.heap.size∧Ext (fun i=>i=h) w (w.setCell ⟨h,5,none⟩ v)) :=
  fun v=>ae ⟨heap_setCell _ _ 5 v m,size_setCell _ _ _,(Ext.refl _ w).setCell _ _ (.inl rfl)⟩
 have y:∀ v u:Value,Hid (((w.setCell ⟨h,5,none⟩ v).setCell ⟨h,3,none⟩ u).heap[h]?=some (.cells #[a0,a1,a2,u,.int .i64 s,v,.int .i64 wr,.int .i64 r0,.int .i64 r1,.int .i64 r2,.map (some r),lv] 87)∧((w.setCell ⟨h,5,none⟩ v).setCell ⟨h,3,none⟩ u).heap.size=w.heap.size∧Ext (fun i=>i=h) w ((w.setCell ⟨h,5,none⟩ v).setCell ⟨h,3,none⟩ u)) :=
  fun v u=>ae ⟨heap_setCell _ _ 3 u (q v).out.1,(size_setCell _ _ _).trans (q v).out.2.1,(q v).out.2.2.setCell _ _ (.inl rfl)⟩
 clear m
 go_enter Tryz.func203,Tryz.ntmps203
 cases b with
 | true =>
  rcases dS n 0 with o | o | o
  ·rw [aw (by omega)]
   go_wp2
   go_ret
   obtain ⟨d,j,l⟩:=(q (.bool true)).out
   exact ⟨rfl,d,j,l⟩
  ·subst o
   go_wp2
   go_ret
   obtain ⟨d,j,l⟩:=(q (.bool true)).out
   exact ⟨rfl,d,j,l⟩
  ·rw [aF o]
   go_wp2
   go_ret
   obtain ⟨d,j,l⟩:=(y (.bool true) (.int .i64 (n-1))).out
   exact ⟨rfl,d,j,l⟩
 | false =>
  rcases dS n 0 with o | o | o
  ·have e:decide (n=0)=false:=by simp;omega
   have C:(n==0)=false:=by simp;omega
   rw [aw (by omega),e]
   go_wp2
   go_ret
   obtain ⟨d,j,l⟩:=(q (.bool false)).out
   exact ⟨rfl,d,j,l⟩
  ·subst o
   go_wp2
   go_ret
   obtain ⟨d,j,l⟩:=(q (.bool true)).out
   exact ⟨rfl,d,j,l⟩
  ·have e:decide (n=0)=false:=by simp;omega
   have C:(n==0)=false:=by simp;omega
   rw [aF o,e]
   go_wp2
   go_ret
   obtain ⟨d,j,l⟩:=(y (.bool false) (.int .i64 (n-1))).out
   exact ⟨rfl,d,j,l⟩
theorem AJ (h:Nat) (x:HV) (t:Int) (w:World) (j:HostIs w h x) :
  Calls Tryz.prog 207 #[.agg #[.pointer (some ⟨h,0,none⟩)],.int .i64 t] w fun e w'=>e = .returned (.int .i64 (if 0≤t∧t<3 then x.room t.toNat else 0))∧Below w.heap.size w w':=by
 have b:Below w.heap.size w (w.alloc (.cells #[.pointer (some ⟨h,0,none⟩)] 189)):=(Below.refl _ w).alloc (ah _) _
 have l:=fL w (.cells #[.pointer (some ⟨h,0,none⟩)] 189)
 have rc:=af _ _ 0 _ _ _ l
 have m:=fI j
 have d:=j.fW (b.block h m)
 unfold HostIs HV.cells at d
 have o:=af _ _ 7 _ _ _ d
 have q:=af _ _ 8 _ _ _ d
 have r:=af _ _ 9 _ _ _ d
 have i:=ae b
 clear j d l b
 go_enter Tryz.func207,Tryz.ntmps207
 by_cases s:t<0
 ·rw [aw (by omega)]
  go_wp2
  go_ret
  exact ⟨rfl,i.out⟩
 ·by_cases h3:3≤t
  ·rw [aw (by omega)]
   go_wp2
   go_ret
   exact ⟨rfl,i.out⟩
  ·rw [aF (by omega)]
   obtain rfl | rfl | rfl:t=0∨t=1∨t=2:=by omega
   ·go_wp2
    go_ret
    exact ⟨rfl,i.out⟩
   ·go_wp2
    go_ret
    exact ⟨rfl,i.out⟩
   ·go_wp2
    go_ret
    exact ⟨rfl,i.out⟩
theorem zP (h:Nat) (x:HV) (S:List E) (t:Int) (w:World) (V:HostIs w h x) (o:TabAt w x.r S) (hl:S.length≤1000000000) :
  Calls Tryz.prog 209 #[.agg #[.pointer (some ⟨h,0,none⟩)],.int .i64 t] w fun e w'=>e = .returned (.int .i64 (countS t S:Nat))∧Below w.heap.size w w':=by
 obtain ⟨r,Z⟩:∃ r,r=x.r:=⟨_,rfl⟩
 have C:Below w.heap.size w (w.alloc (.cells #[.pointer (some ⟨h,0,none⟩)] 189)):=(Below.refl _ w).alloc (ah _) _
 have R0:=fL w (.cells #[.pointer (some ⟨h,0,none⟩)] 189)
 have rc:=af _ _ 0 _ _ _ R0
 have ab:=fI V
 have W:=V.fW (C.block h ab)
 unfold HostIs HV.cells at W
 have O:=af _ _ 10 _ _ _ W
 simp only [bR,aY,bE] at O
 rw [←Z] at O o
 have a5:=o.lt
 obtain ⟨Q,L,X,hp⟩:=o.fW (C.block r o.lt)
 have Y:=ae hp
 have HN:=ae Q.nodup
 have ak:(w.alloc (.cells #[.pointer (some ⟨h,0,none⟩)] 189)).heap.size=w.heap.size+1:=by simp
 clear Q hp o V W R0 Z
 go_enter Tryz.func209,Tryz.ntmps209
 go_wp2_with (first | (refine jY rfl _ rfl Tryz.underlying85 rfl X ?_;intro w1 D al a6) | fail)
 rw [ak] at D⊢
 try go_frame
 go_loopw [5] (fun n wr=>∃ l:List E,gm wr r (w.heap.size+1) L (l.map zS)∧n = .int .i64 (countS t l:Nat)∧Below w.heap.size w wr) (fun _ wr=>wr.rangeLeft r (w.heap.size+1))
 case atStart=>exact ⟨[],D,rfl,C.trans (al.mono (by omega))⟩
 case round =>
  obtain ⟨l,d,rfl,s⟩:=hrel
  go_wp2_with (first | (refine kD rfl _ rfl rfl d ?_ ?_) | fail)
  ·intro am
   have ap:=ae (tH t (qO (ky d.sub.2.2) HN.out (am.trans Y.out)))
   go_wp2
   go_ret
   exact ⟨by rw [ap.out];rfl,s⟩
  ·intro m B v w2 hx aE F a0 a7 a1 a9
   obtain ⟨⟨k',N⟩,a2,e⟩:=aB.1 (Y.out.mem_iff.1 hx)
   cases e
   have G:gm w2 r (w.heap.size+1) L ((l++[((m,B),N)]).map zS):=by rw [bC];exact F
   have ba:countS t l≤1000000000:=by
    have h1:countS t l≤l.length:=List.countP_le_length
    have h2:l.length≤S.length:=rE (ky d.sub.2.2) (fun y hy=>sY (Y.out.mem_iff.1 (d.sub.1 _ (aB.2 ⟨y,hy,rfl⟩))))
    omega
   have R:=ae (tI t l ((m,B),N))
   have i:=ae G
   have bb:=s.size
   have u:Below w.heap.size w w2:=s.grown a0 s.size (fun j e=>by cases e;exact dR _)
   have U:=ae d
   clear F G hx aE a2 d
   unfold kP at a1
   by_cases o:m=t
   ·subst o
    have I:Hid (countS m (l++[((m,B),N)])=countS m l+1):=ae (by rw [R.out,aF rfl])
    go_wp2
    have b:Below w2.heap.size w2 (w2.alloc (.cells #[.int .i64 m,.string ⟨B.toArray⟩] 94)):=(Below.refl _ w2).alloc (ah _) _
    have q:=i.out.frame (b.block _ i.out.lt.1) (b.block _ i.out.lt.2)
    have J:=q.left
    have M:=U.out.left
    simp only [aH,ar,au,aJ] at J M
    exact ⟨⟨_,q,by rw [I.out];rfl,u.trans (b.mono u.size)⟩,by omega⟩
   ·have I:Hid (countS t (l++[((m,B),N)])=countS t l):=ae (by rw [R.out,aw o];rfl)
    go_wp2
    have b:Below w2.heap.size w2 (w2.alloc (.cells #[.int .i64 m,.string ⟨B.toArray⟩] 94)):=(Below.refl _ w2).alloc (ah _) _
    have q:=i.out.frame (b.block _ i.out.lt.1) (b.block _ i.out.lt.2)
    have J:=q.left
    have M:=U.out.left
    simp only [aH,ar,au,aJ] at J M
    exact ⟨⟨_,q,by rw [I.out],u.trans (b.mono u.size)⟩,by omega⟩
end Go.Proofs.YtkkfmkhbdoeglaaGreatDoor
