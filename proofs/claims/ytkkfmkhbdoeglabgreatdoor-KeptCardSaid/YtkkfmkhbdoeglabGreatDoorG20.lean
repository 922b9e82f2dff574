/- A part of what is proved here: lemmas and contracts of single functions. No condition but those that each names. -/
import Derived.Test.YtkkfmkhbdoeglabGreatDoorG00
import Derived.BigRegion
import Derived.Deep.RegionHeld
import Derived.Deep.RegionHeld3
import Derived.Deep.RegionLaw
import Derived.OrdersHeld
import Derived.RegionTactic
import Derived.Shelf.Abstract
import Derived.Test.YtkkfmkhbdoeglabGreatDoorG03
import Derived.Test.YtkkfmkhbdoeglabGreatDoorG06
import Derived.Test.YtkkfmkhbdoeglabGreatDoorG14
import Derived.Test.YtkkfmkhbdoeglabGreatDoorG16
import Derived.Test.YtkkfmkhbdoeglabGreatDoorG18
import Derived.Test.YtkkfmkhbdoeglabGreatDoorG19
set_option maxHeartbeats 4000000
set_option maxRecDepth 100000
namespace Go.Proofs.YtkkfmkhbdoeglabGreatDoor
def applySel {α:Type} (b:Nat→Bool):Nat→List (α×Nat)→List α→List α
 | _,[],d=>d
 | k,(p,n)::l,d=>applySel b (k+1) l (if b k then d.set n p else d)
theorem sg {α β:Type} (f : α→β) (b:Nat→Bool):∀ (k:Nat) (l:List (α×Nat)) (d:List α),(applySel b k l d).map f=applySel b k (l.map fun x=>(f x.1,x.2)) (d.map f)
 | _,[],d=>rfl
 | k,(p,n)::l,d=>by
  rw [bq]
  unfold applySel
  rw [sg f b (k+1) l]
  congr 1
  split
  ·rw [cY]
  ·rfl
theorem ka {α:Type} (b:Nat→Bool):∀ (k:Nat) (l:List (α×Nat)) (d:List α),(applySel b k l d).length=d.length
 | _,[],d=>rfl
 | k,(p,n)::l,d=>by
  unfold applySel
  rw [ka b (k+1) l]
  split
  ·rw [bW]
  ·rfl
theorem ni {α:Type} (b:Nat→Bool):∀ (k:Nat) (i:List α) (at':Nat) (d:List α),at'+i.length≤d.length→∀ j,(applySel b k (i.zipIdx at') d)[j]?=if at'≤j∧j<at'+i.length∧b (k+(j-at'))=true then i[j-at']? else d[j]?
 | k,[],at',d,_,j=>by
  rw [au (by simp;omega)]
  rfl
 | k,q::i,at',d,h,j=>by
  rw [List.zipIdx_cons]
  unfold applySel
  rw [ar] at h
  rw [ni b (k+1) i (at'+1) _ (by split <;> (try rw [bW]) <;> omega) j]
  by_cases s:j=at'
  ·subst s
   rw [au (by omega),ef,cz]
   by_cases hs:b k=true
   ·rw [aD hs,aD ⟨af _,by rw [ar];omega,hs⟩,dZ (by omega)]
    rfl
   ·rw [au hs,au (fun h=>hs h.2.2)]
  ·have r:(if b k=true then d.set at' q else d)[j]?=d[j]?:=by
    split
    ·rw [ew (by omega)]
    ·rfl
   rw [r]
   by_cases u:j<at'
   ·rw [au (by omega),au (by omega)]
   ·obtain ⟨m,rfl⟩:∃ m,j=at'+1+m:=⟨j-(at'+1),by omega⟩
    rw [show at'+1+m-(at'+1)=m by omega,show at'+1+m-at'=m+1 by omega,show k+1+m=k+(m+1) by omega,aY,ar]
    have l:(at'+1≤at'+1+m∧at'+1+m<at'+1+i.length∧b (k+(m+1))=true)↔(at'≤at'+1+m∧at'+1+m<at'+(i.length+1)∧b (k+(m+1))=true) :=
     ⟨fun ⟨h1,h2,h3⟩=>⟨by omega,by omega,h3⟩,fun ⟨h1,h2,h3⟩=>⟨by omega,by omega,h3⟩⟩
    by_cases o:at'+1≤at'+1+m∧at'+1+m<at'+1+i.length∧b (k+(m+1))=true
    ·rw [aD o,aD (l.1 o)]
    ·rw [au o,au fun h=>o (l.2 h)]
theorem AZ {d ps:List Part} {at' m:Nat} (b:Nat→Bool) (h:at'+ps.length≤d.length):nd d (applySel b 0 ((ps.take m).zipIdx at') d) at' ps:=by
 have hl:(ps.take m).length≤ps.length:=by rw [az];omega
 refine ⟨ka _ _ _ _,fun j => ?_⟩
 rw [ni b 0 (ps.take m) at' d (by omega) j]
 split
 ·rename_i hc
  refine .inr ⟨hc.1,by omega,?_⟩
  have:=hc.2.1
  rw [az] at this
  rw [bp (by omega)]
 ·exact .inl rfl
theorem CH {d ps:List Part} {at':Nat} (h:at'+ps.length≤d.length):lD (applySel (fun _=>true) 0 (ps.zipIdx at') d) at' ps:=by
 intro i b
 rw [ni _ 0 ps at' d h (at'+i),aD ⟨by omega,by omega,rfl⟩,Nat.add_sub_cancel_left]
def parseSec (b:List UInt8):Part:=⟨iP (b.take 8),(b.getD 8 0).toNat,(b.getD 9 0).toNat,decide ((b.getD 10 0).toNat≤53),(b.drop 11).take (b.getD 10 0).toNat⟩
def jy (s i n:Nat) (c:List UInt8):List UInt8:=be8 s++[UInt8.ofNat i,UInt8.ofNat n,UInt8.ofNat c.length]++c
def jG (b:List UInt8):List UInt8:=b++List.replicate (64-b.length) 0
theorem pW (s i n:Nat) (c:List UInt8):(jy s i n c).length=11+c.length:=by
 unfold jy
 rw [aq,aq,gm]
 rfl
theorem mN {b:List UInt8} (h:b.length≤64):(jG b).length=64:=by
 unfold jG
 rw [aq,bF]
 omega
theorem yv {s i n:Nat} {c:List UInt8} (hs:s<18446744073709551616) (m:i<256) (o:n<256) (hc:c.length≤53):parseSec (jG (jy s i n c))=⟨s,i,n,true,c⟩:=by
 obtain ⟨b,d⟩:∃ b,b=List.replicate (64-(jy s i n c).length) (0:UInt8):=⟨_,rfl⟩
 have e:jG (jy s i n c)=be8 s++(UInt8.ofNat i::UInt8.ofNat n::UInt8.ofNat c.length::(c++b)):=by
  unfold jG
  rw [←d]
  unfold jy
  simp
 have h8:=gm s
 have g:∀ j,(be8 s++(UInt8.ofNat i::UInt8.ofNat n::UInt8.ofNat c.length::(c++b))).getD (8+j) 0=(UInt8.ofNat i::UInt8.ofNat n::UInt8.ofNat c.length::(c++b)).getD j 0:=fun j=>by
  rw [aN,cE (by omega),show 8+j-(be8 s).length=j by omega,←aN]
 have g0:=g 0
 have g1:=g 1
 have g2:=g 2
 simp only [cz,Nat.reduceAdd,List.getD_cons_zero,List.getD_cons_succ] at g0 g1 g2
 have l:(UInt8.ofNat c.length).toNat=c.length:=by simp;omega
 unfold parseSec
 rw [e,g0,g1,g2,eG (by omega),aQ (by omega),sL s hs,l]
 have hd:(be8 s++(UInt8.ofNat i::UInt8.ofNat n::UInt8.ofNat c.length::(c++b))).drop 11=c++b:=by
  rw [List.drop_append,fJ (by omega),show 11-(be8 s).length=3 by omega]
  rfl
 rw [hd,eG (by omega),aQ (by omega)]
 have h1:(UInt8.ofNat i).toNat=i:=by simp;omega
 have h2:(UInt8.ofNat n).toNat=n:=by simp;omega
 rw [h1,h2]
 simp [hc]
def partsOf (len:Nat):Nat:=(len+52) / 53
def jF (data:List UInt8) (i:Nat):List UInt8:=(data.drop (53*i)).take 53
def gA (s:Nat) (data:List UInt8):List (List UInt8):=(List.range (partsOf data.length)).map fun i=>jG (jy s i (partsOf data.length) (jF data i))
theorem jd (s:Nat) (data:List UInt8):(gA s data).length=partsOf data.length:=by simp [gA]
theorem pn (data:List UInt8) (i:Nat):(jF data i).length≤53:=by
 unfold jF
 rw [az]
 omega
theorem ub (data:List UInt8):∀ n,(List.range n).flatMap (jF data)=data.take (53*n)
 | 0=>by simp
 | n+1=>by
  rw [fy,eA,ub data n,cP,List.flatMap_nil,cM]
  unfold jF
  rw [show 53*(n+1)=53*n+53 by omega,List.take_add]
theorem Da {s:Nat} {data:List UInt8} (hs:s<18446744073709551616) (l:0<data.length) (j:partsOf data.length<256):oO s ((gA s data).map parseSec) data:=by
 have d:∀ i,i<partsOf data.length→((gA s data).map parseSec)[i]?=some ⟨s,i,partsOf data.length,true,jF data i⟩:=fun i b=>by
  unfold gA
  rw [List.map_map,bd,List.getElem?_range b]
  show some (parseSec _)=_
  rw [yv hs (by omega) j (pn _ _)]
 have hlen:((gA s data).map parseSec).length=partsOf data.length:=by rw [aG,jd]
 refine ⟨by rw [hlen];unfold partsOf;omega,fun i p h => ?_,?_⟩
 ·have b:=(aF.1 h).1
  rw [hlen] at b
  rw [d i b] at h
  cases h
  exact ⟨rfl,rfl,hlen.symm,rfl⟩
 ·have e:((gA s data).map parseSec).flatMap (·.data)=(List.range (partsOf data.length)).flatMap (jF data):=by
   rw [vZ,hlen]
   refine l8 fun i b => ?_
   rw [aN,d i (cU.1 b)]
   rfl
  rw [e,ub,aQ]
  unfold partsOf
  omega
def placeOf (n:Nat):Nat:=(16*(n-8)+62) / 53
theorem jq {n:Nat} (h1:32≤n) (h2:n≤128):8≤placeOf n∧placeOf n≤37∧2*placeOf n+16≤n:=by
 unfold placeOf
 omega
theorem mR {len n:Nat} (h:len≤10+16*(n-8)):partsOf len≤placeOf n:=by
 unfold partsOf placeOf
 omega
def stampsLe (d:List (List UInt8)) (s:Nat):Prop:=∀ b∈d,(parseSec b).stamp≤s
theorem stampsLe.fresh {d:List (List UInt8)} {s:Nat} (h:stampsLe d s):∀ b∈d.map parseSec,b.stamp<s+1:=by
 intro b i
 obtain ⟨x,j,rfl⟩:=aB.1 i
 have:=h x j
 omega
theorem stampsLe.apply {d:List (List UInt8)} {s:Nat} {data:List UInt8} (h:stampsLe d s) (hs:s+1<18446744073709551616) (q:partsOf data.length<256) (o:Nat→Bool) (m at':Nat) (hl:at'+partsOf data.length≤d.length):stampsLe (applySel o 0 (((gA (s+1) data).take m).zipIdx at') d) (s+1):=by
 intro b r
 obtain ⟨j,l⟩:=List.mem_iff_getElem?.1 r
 have hlen:((gA (s+1) data).take m).length≤partsOf data.length:=by rw [az,jd];omega
 rw [ni o 0 _ at' d (by omega) j] at l
 split at l
 ·have hm:=cZ (aV l)
  unfold gA at hm
  obtain ⟨i,u,rfl⟩:=aB.1 hm
  have:=cU.1 u
  rw [yv hs (by omega) q (pn _ _)]
  exact af _
 ·have:=h b (aV l)
  omega
def iH:List UInt8:=List.replicate 64 0
theorem wP:(parseSec iH).stamp=0:=by decide
theorem G3 {T O:Type} (decS:List UInt8→Option (Nat×T)) (decD:List UInt8→Option (Nat×O)) (app:T→O→T) (t0:T) (n p:Nat):DiskInv decS decD app t0 ((List.replicate n iH).map parseSec) p 0 0 t0 (2*p):=by
 have l:∀ b∈(List.replicate n iH).map parseSec,b.stamp=0:=fun b j=>by
  obtain ⟨x,o,rfl⟩:=aB.1 j
  rw [(List.mem_replicate.1 o).2]
  exact wP
 have d:∀ m i x,¬WholeAt (((List.replicate n iH).map parseSec).take m) i x:=fun m i x h=>by
  obtain ⟨b,j,e⟩:=h.qV
  obtain ⟨k,-,q,-⟩:=h
  exact q (by rw [←e];exact l b (cZ j))
 refine ⟨0,0,t0,[],0,.inl ⟨rfl,rfl,rfl,rfl,fun s x _=>d _ _ x⟩,.nil _ _ _ _,fun i x _ h => ?_⟩
 have:=d n i x
 rw [aQ (by simp)] at this
 exact absurd h this
end Go.Proofs.YtkkfmkhbdoeglabGreatDoor
namespace Go.Proofs.YtkkfmkhbdoeglabGreatDoor
structure fP where
 held:List (List UInt8)
 seen:List (List UInt8)
 late:List (List UInt8×Nat)
 fail:Int
 writes:Int
 dp:DpS
def fP.asked (H:fP):fP := {H with fail:=if H.fail<0 then H.fail else H.fail-1}
def fP.gW (H:fP):Bool:=decide (H.fail=0)
def fP.read (H:fP) (n:Nat):fP×Option (List UInt8):=(H.asked,if H.gW then none else H.seen[n]?)
def fP.write (H:fP) (n:Nat) (s:List UInt8):fP×Option Nat :=
 if H.gW then (H.asked,some (n+2))
 else ({H.asked with writes:=H.writes+1,seen:=H.seen.set n s,dp:=H.dp.stop,late:=if H.dp.stop.dead then H.late else H.late++[(s,n)]},none)
def fP.flush (H:fP):fP×Option Nat :=
 if H.gW then (H.asked,some 1)
 else if H.dp.stop.dead then ({H.asked with dp:=H.dp.stop},none)
 else ({H.asked with dp:=H.dp.stop,held:=applySel (fun _=>true) 0 H.late H.held,late:=[]},none)
def gH:List (List UInt8)→fP→Nat→fP×Option Nat
 | [],H,_=>(H,none)
 | s::l,H,at'=>match H.write at' s with
  | (H1,some f)=>(H1,some f)
  | (H1,none)=>gH l H1 (at'+1)
end Go.Proofs.YtkkfmkhbdoeglabGreatDoor
namespace Go.Proofs.YtkkfmkhbdoeglabGreatDoor
structure LogS where
 stamp:Nat
 slot:Nat
 next:Nat
def fV (H:fP) (g:LogS) (at':Nat) (data:List UInt8):fP×Option Nat:=match gH (gA (g.stamp+1) data) H at' with
 | (H1,some f)=>(H1,some f)
 | (H1,none)=>H1.flush
def CO (g:LogS) (n:Nat):fP×Option Nat→fP×LogS×Option Nat
 | (H1,some f)=>(H1,{g with stamp:=g.stamp+1},some f)
 | (H1,none)=>(H1,⟨g.stamp+1,1-g.slot,2*placeOf n⟩,none)
def gd (H:fP) (g:LogS) (v:Nat) (T:List E):fP×LogS×Option Nat:=CO g H.seen.length (fV H g ((1-g.slot)*placeOf H.seen.length) (gX v T))
def qm (g:LogS) (b:List UInt8):fP×Option Nat→fP×LogS×Option Nat
 | (H1,some f)=>(H1,{g with stamp:=g.stamp+1},some f)
 | (H1,none)=>(H1,{g with stamp:=g.stamp+1,next:=g.next+partsOf b.length},none)
def gM (H:fP) (g:LogS) (b:List UInt8):fP×LogS×Option Nat:=qm g b (fV H g g.next b)
def Gv (b:List UInt8):fP×LogS×Option Nat→fP×LogS×Option Nat
 | (H1,g1,some f)=>(H1,g1,some f)
 | (H1,g1,none)=>gM H1 g1 b
def gY (H:fP) (g:LogS) (b:List UInt8) (v:Nat) (T:List E):fP×LogS×Option Nat :=
 if H.seen.length<g.next+partsOf b.length then Gv b (gd H g v T) else gM H g b
def readAll (H:fP):fP×Option Nat :=
 if 0≤H.fail∧H.fail<H.seen.length then ({H with fail := -1},some (H.fail.toNat+2))
 else ({H with fail:=if H.fail<0 then H.fail else H.fail-H.seen.length},none)
def gO (seen:List (List UInt8)):Nat:=seen.foldl (fun m b=>max m (parseSec b).stamp) 0
def decSB (l:List UInt8):Option (Nat×List E):=match iG l with
 | .inl r=>some r
 | .inr _=>none
def decDB (l:List UInt8):Option (Nat×List OpB):=match pt l with
 | .inl r=>some r
 | .inr _=>none
def Bf (seen:List (List UInt8)):LogS×Nat×List E :=
 let d:=seen.map parseSec
 let p:=placeOf d.length
 let b:=tP decSB d p []
 let c:=kA foldS (yw decDB d (iF d p)) (d.length+1) b.1 b.2.2.1 b.2.2.2 (2*p)
 (⟨gO seen,b.2.1,c.2.2⟩,c.1,c.2.1)
structure PAg where
 a:AgA
 sec:Nat
 lg:LogS
def im.log (tk:im) (H:fP) (P:PAg):fP×LogS×Option Nat:=match tk with
 | .delta v os=>gY H P.lg (jb v os) P.a.V P.a.T
 | .state v T=>gd H P.lg v T
def fP.nf (H:fP) (T:List E):fP := {H with dp:=H.dp.run (jo H.dp.S T)}
def vm (P:PAg) (tk:im):fP×LogS×Option Nat→fP×PAg
 | (H1,g1,some f)=>(H1,⟨P.a.stops (12,0),f,g1⟩)
 | (H1,g1,none)=>(H1.nf (tk.T P.a.T),⟨{P.a with V:=tk.V,T:=tk.T P.a.T}.lQ,P.sec,g1⟩)
def j7 (H:fP) (P:PAg) (tk:im):fP×PAg:=match iw (tk.T P.a.T) H.dp.room H.seen.length with
 | some f=>(H,{P with a:=P.a.stops f,sec:=0})
 | none=>vm P tk (tk.log H P)
def ij (H:fP) (P:PAg) (frame:List UInt8):fP×PAg:=match P.a.taken frame with
 | (a1,none)=>(H,{P with a:=a1})
 | (a1,some tk)=>j7 H {P with a:=a1} tk
def ie (H:fP):fP×(PAg⊕(Nat×Nat×Nat)):=match readAll H with
 | (H1,some f)=>(H1,.inr (12,0,f))
 | (H1,none) =>
  let o:=Bf H.seen
  match overS o.2.2 H.dp.room with
  | some t=>(H1,.inr (10,t,0))
  | none=>(H1.nf o.2.2,.inl ⟨begunA o.2.1 o.2.2,0,o.1⟩)
def pI (mask:Int) (i:Nat):Bool:=decide (mask / 2^(i%60)%2=1)
def fP.again (H:fP) (mask cut fail:Int):fP :=
 {held:=applySel (pI mask) 0 H.late H.held,seen:=applySel (pI mask) 0 H.late H.held,late:=[],fail:=max fail (-1),writes:=H.writes,dp := {H.dp with dead:=false,left:=max cut (-1)}}
def mZ (n:Nat) (room:Nat→Int):fP:=⟨List.replicate n iH,List.replicate n iH,[],-1,0,⟨-1,false,room,[],[]⟩⟩
end Go.Proofs.YtkkfmkhbdoeglabGreatDoor
namespace Go.Proofs.YtkkfmkhbdoeglabGreatDoor
def Hq (o:OpB):K:=(o.table,o.key)
theorem IL (S:List E) (o:OpB) (x:E):x∈ET S o↔(o.kind=1∧x=(Hq o,o.val))∨(x∈S∧x.1≠Hq o):=by
 unfold ET Hq
 split
 ·rename_i h
  rw [jA]
  simp [h]
 ·rename_i h
  rw [mO]
  simp [h]
theorem uI (p q:E→Bool) (h:∀ x,p x=true→q x=false):∀ S:List E,(S.filter p).length+(S.filter q).length≤S.length
 | []=>af _
 | x::S=>by
  have ih:=uI p q h S
  cases b:p x with
  | true =>
   rw [fF b,eE (by rw [h x b];decide)]
   simp only [ar]
   omega
  | false =>
   rw [eE (by rw [b];decide)]
   have:=dr q [x]
   cases hq:q x with
   | true=>rw [fF hq];simp only [ar];omega
   | false=>rw [eE (by rw [hq];decide)];simp only [ar];omega
theorem EI (S:List E) (o:OpB):(ET S o).length≤S.length+1:=by
 unfold ET
 split
 ·unfold ke
  rw [aq,ar]
  exact Nat.succ_le_succ (uI _ _ (fun x h=>lO h) S)
 ·unfold ot
  exact ey (dr _ S)
theorem qg:∀ (os:List OpB) {S:List E} (_:SortedE S),(foldS S os).length≤S.length+os.length
 | [],_,_=>af _
 | o::os,S,hs=>by
  have h1:=EI S o
  have h2:=qg os (yC o hs)
  show (foldS (ET S o) os).length≤_
  simp only [ar]
  omega
end Go.Proofs.YtkkfmkhbdoeglabGreatDoor
namespace Go.Proofs.YtkkfmkhbdoeglabGreatDoor
open Go.RowKit
def EntGood (x:E):Prop:=0≤x.1.1∧x.1.1<3∧iz x.1.1 x.1.2=true∧gL x.1.1 x.2=true
theorem tG:∀ (os:List OpB) (S:List E) (x:E),x∈foldS S os→x∈S∨∃ o∈os,o.kind=1∧x=(Hq o,o.val)
 | [],_,_,h => .inl h
 | o::os,S,x,h=>by
  rcases tG os (ET S o) x h with h | ⟨u,hu,e⟩
  ·rcases (IL S o x).1 h with ⟨b,e⟩ | ⟨h,-⟩
   ·exact .inr ⟨o,by simp,b,e⟩
   ·exact .inl h
  ·exact .inr ⟨u,by simp [hu],e⟩
theorem o9 {v:Nat} {os:List OpB} (h:gK v os=none):os.length≤8∧∀ o∈os,(o.kind=1∨o.kind=2)∧0≤o.table∧o.table<3∧iz o.table o.key=true∧o5 o=true:=by
 have b:os.length≤8∧gi 0 [] os=none:=by
  unfold gK at h
  split at h
  ·cases h
  ·split at h
   ·cases h
   ·exact ⟨by omega,h⟩
 refine ⟨b.1,fun o i => ?_⟩
 obtain ⟨k,hk,rfl⟩:=cF i
 obtain ⟨j,d⟩:=jl os 0 [] b.2 k hk
 obtain ⟨h1,h2,h3,h4,-,h6⟩:=ny d
 exact ⟨h1,h2,h3,h4,h6⟩
structure jQ (m:Nat) (S:List E):Prop where
 len:S.length≤m
 sorted:SortedE S
 good:∀ x∈S,EntGood x
theorem jQ.nil (m:Nat):jQ m []:=⟨aM _,SortedE.nil,fun _ h=>by cases h⟩
theorem jQ.fold {m:Nat} {S:List E} {v:Nat} {os:List OpB} (h:jQ m S) (hw:gK v os=none):jQ (m+8) (foldS S os):=by
 obtain ⟨h8,d⟩:=o9 hw
 refine ⟨?_,oz os h.sorted,fun x b => ?_⟩
 ·have:=qg os h.sorted
  have:=h.len
  omega
 ·rcases tG os S x b with b | ⟨o,hm,hk,rfl⟩
  ·exact h.good x b
  ·obtain ⟨-,h2,h3,h4,h6⟩:=d o hm
   unfold o5 at h6
   rw [au (by omega)] at h6
   exact ⟨h2,h3,h4,h6⟩
theorem jQ.mono {m b:Nat} {S:List E} (h:jQ m S) (hm:m≤b):jQ b S:=⟨aH h.len hm,h.sorted,h.good⟩
theorem jQ.apply {m:Nat} {S:List E} (h:jQ m S) (v:Nat) (os:List OpB):jQ (m+8) (nL v S os):=by
 unfold nL
 cases hw:gK v os with
 | none=>exact h.fold hw
 | some f=>exact h.mono (by omega)
theorem jQ.fit {m:Nat} {S:List E} (h:jQ m S):Jt S:=fun x i=>by
 obtain ⟨g0,g2,g3,g4⟩:=h.good x i
 have b:=js g3
 have d:=iT g0 g2 g4
 have j:x.1.1=0∨x.1.1=1∨x.1.1=2:=by omega
 rcases j with e | e | e <;> (rw [e] at b d;unfold fS at b;unfold gw at d;simp at b d;omega)
end Go.Proofs.YtkkfmkhbdoeglabGreatDoor
namespace Go.Proofs.YtkkfmkhbdoeglabGreatDoor
open Go.RowKit
theorem sM (x:UInt8):UInt8.ofNat x.toNat=x:=by simp
theorem qc (x:E):jK x=UInt8.ofNat x.1.1.toNat::(x.1.2++x.2):=rfl
theorem Cw (s:List UInt8) (q:Nat) (o:Option K) (x:E) (rest:List UInt8) (m:EntGood x) (r:∀ k,o=some k→oa k x.1=true) (hd:s.drop q=jK x++rest) :
  lG s q o = .inl (x,q+(jK x).length):=by
 obtain ⟨⟨T,i⟩,d⟩:=x
 obtain ⟨g0,g3,hk,l⟩:=m
 simp only at g0 g3 hk l
 have j:=js hk
 have lv:=iT g0 g3 l
 have u:((UInt8.ofNat T.toNat).toNat:Int)=T:=by simp;omega
 have e0:s.drop q=UInt8.ofNat T.toNat::(i++d++rest):=by rw [hd,qc];simp
 have t1:(i++d++rest).take (fS T)=i:=by rw [bj,←j,ep]
 have t2:((i++d++rest).drop (fS T)).take (gw T)=d:=by rw [bj,←j,eB,←lv,ep]
 have hl:(i++d++rest).length=fS T+gw T+rest.length:=by simp [j,lv];omega
 have hq:q+(jK ((T,i),d)).length=q+1+fS T+gw T:=by rw [qc];simp [j,lv];omega
 unfold lG
 rw [e0,hq]
 simp only [u,t1,t2]
 rw [au (by omega),au (by omega),au (by rw [hk];decide)]
 have h4:∀ b:Bool,(b=true)→(if b=false then Sum.inr (14,q+1) else if (i++d++rest).length<fS T+gw T then .inr (1,q+1+fS T) else if gL T d=false then .inr (9,q+1+fS T) else .inl (((T,i),d),q+1+fS T+gw T):(E×Nat)⊕(Nat×Nat)) = .inl (((T,i),d),q+1+fS T+gw T):=by
  intro b y
  rw [y,au (by decide),au (by omega),au (by rw [l];decide)]
 cases o with
 | none=>exact h4 true rfl
 | some k=>exact h4 _ (r k rfl)
theorem sx (s:List UInt8):∀ (l es:List E) (q:Nat) (rest:List UInt8),SortedE (es++l)→(∀ x∈l,EntGood x)→s.drop q=jE l++rest→jg s l.length q es = .inl (q+(jE l).length,es++l)
 | [],es,q,rest,_,_,_=>by simp [jg,jE]
 | x::l,es,q,rest,hs,i,hd=>by
  have b:jE (x::l)=jK x++jE l:=rfl
  have j:∀ k,es.getLast?.map (·.1)=some k→oa k x.1=true:=fun k hk=>by
   cases d:es.getLast? with
   | none=>rw [d] at hk;cases hk
   | some z =>
    rw [d] at hk
    cases hk
    exact (dS.1 hs).2.2 z (List.mem_of_getLast? d) x (by simp)
  have h1:=Cw s q (es.getLast?.map (·.1)) x (jE l++rest) (i x (by simp)) j (by rw [hd,b,bj])
  have ih:=sx s l (es++[x]) (q+(jK x).length) rest (by simpa using hs) (fun y m=>i y (by simp [m])) (by rw [←cN,hd,b,bj,eB])
  rw [ar,jg,h1]
  simp only []
  rw [ih,b,aq,aW]
  simp
theorem ug {v:Nat} {S:List E} (i:isVersionB v=true) (hs:SortedE S) (m:∀ x∈S,EntGood x) (hl:S.length<65536):iG (gX v S) = .inl (v,S):=by
 have h8:(be8 v).length=8:=gm v
 have e:gX v S=be8 v++(UInt8.ofNat (S.length / 256)::UInt8.ofNat S.length::jE S):=by unfold gX;simp
 have o:(gX v S).take 8=be8 v:=by rw [e,←h8,ep]
 have b:(gX v S).drop 8=UInt8.ofNat (S.length / 256)::UInt8.ofNat S.length::jE S:=by rw [e,←h8,eB]
 have el:(gX v S).length=10+(jE S).length:=by rw [e];simp [h8];omega
 have j:(gX v S).getD 8 0=UInt8.ofNat (S.length / 256):=by
  have:((gX v S).drop 8)[0]?=some (UInt8.ofNat (S.length / 256)):=by rw [b];rfl
  rw [dy] at this
  rw [aN,this];rfl
 have l:(gX v S).getD 9 0=UInt8.ofNat S.length:=by
  have:((gX v S).drop 8)[1]?=some (UInt8.ofNat S.length):=by rw [b];rfl
  rw [dy] at this
  rw [aN,this];rfl
 have d:(gX v S).drop 10=jE S++[]:=by
  have:((gX v S).drop 8).drop 2=jE S:=by rw [b];rfl
  rw [cN] at this
  rw [this,cM]
 have q:(UInt8.ofNat (S.length / 256)).toNat*256+(UInt8.ofNat S.length).toNat=S.length:=by simp;omega
 rw [oq]
 unfold mx
 rw [au (by omega),o,sL v (lj i),au (by rw [i];decide),au (by omega),j,l,q,sx (gX v S) S [] 10 [] hs m d]
 simp only []
 rw [au (by omega),aO]
theorem Cv {s:List UInt8} {q b:Nat} {o:Option K} {x:E} (h:lG s q o = .inl (x,b)):EntGood x∧s.drop q=jK x++s.drop b:=by
 obtain ⟨-,-,i,h3,hk,j,-⟩:=px h
 refine ⟨⟨i,h3,hk,j⟩,?_⟩
 have u:=js hk
 have lv:=iT i h3 j
 unfold lG at h
 cases hd:s.drop q with
 | nil=>rw [hd] at h;cases h
 | cons t r =>
  rw [hd] at h
  have key:∀ c:Bool,(if 2<t.toNat then Sum.inr (6,q)
   else if r.length<fS (t.toNat:Int) then .inr (1,q+1)
   else if iz (t.toNat:Int) (r.take (fS (t.toNat:Int)))=false then .inr (7,q+1)
   else if c=false then .inr (14,q+1)
   else if r.length<fS (t.toNat:Int)+gw (t.toNat:Int) then .inr (1,q+1+fS (t.toNat:Int))
   else if gL (t.toNat:Int) ((r.drop (fS (t.toNat:Int))).take (gw (t.toNat:Int)))=false then .inr (9,q+1+fS (t.toNat:Int))
   else .inl ((((t.toNat:Int),r.take (fS (t.toNat:Int))),(r.drop (fS (t.toNat:Int))).take (gw (t.toNat:Int))),q+1+fS (t.toNat:Int)+gw (t.toNat:Int)))=(.inl (x,b):(E×Nat)⊕(Nat×Nat))→
   x=(((t.toNat:Int),r.take (fS (t.toNat:Int))),(r.drop (fS (t.toNat:Int))).take (gw (t.toNat:Int)))∧b=q+1+fS (t.toNat:Int)+gw (t.toNat:Int):=by
   intro c h
   split at h
   ·cases h
   split at h
   ·cases h
   split at h
   ·cases h
   split at h
   ·cases h
   split at h
   ·cases h
   split at h
   ·cases h
   obtain ⟨d,hq⟩:=Prod.mk.inj (Sum.inl.inj h)
   exact ⟨d.symm,hq.symm⟩
  have d:x=(((t.toNat:Int),r.take (fS (t.toNat:Int))),(r.drop (fS (t.toNat:Int))).take (gw (t.toNat:Int)))∧b=q+1+fS (t.toNat:Int)+gw (t.toNat:Int):=by
   cases o with
   | none=>exact key true h
   | some y=>exact key _ h
  obtain ⟨rfl,rfl⟩:=d
  have l:=(drop1 hd).1
  rw [qc]
  simp only [dV,sM]
  have m:s.drop (q+1+fS (t.toNat:Int)+gw (t.toNat:Int))=(r.drop (fS (t.toNat:Int))).drop (gw (t.toNat:Int)):=by
   rw [←l,cN,cN,aW]
  rw [m,aX,bj,cw,cw]
theorem sw {s:List UInt8} : ∀ {n q d:Nat} {es b:List E},jg s n q es = .inl (d,b)→q≤s.length→∃ l,b=es++l∧(∀ x∈l,EntGood x)∧s.drop q=jE l++s.drop d∧d≤s.length
 | 0,q,d,es,b,h,hq=>by
  obtain ⟨rfl,rfl⟩:=Prod.mk.inj (Sum.inl.inj h)
  exact ⟨[],by simp,(fun x i=>by cases i),by simp [jE],hq⟩
 | n+1,q,d,es,b,h,hq=>by
  unfold jg at h
  cases he:lG s q (es.getLast?.map (·.1)) with
  | inr f=>rw [he] at h;cases h
  | inl r =>
   obtain ⟨x,u⟩:=r
   rw [he] at h
   obtain ⟨l,rfl,hl,hd,m⟩:=sw h (px he).2.1
   obtain ⟨i,o⟩:=Cv he
   refine ⟨x::l,by simp,fun y j => ?_,?_,m⟩
   ·rcases aP.1 j with rfl | j
    ·exact i
    ·exact hl y j
   ·rw [o,hd]
    show _=jK x++jE l++_
    rw [bj]
theorem om {s:List UInt8} {n:Nat} {S:List E} (h:iG s = .inl (n,S)):isVersionB n=true∧(∀ x∈S,EntGood x)∧gX n S=s:=by
 have hlen:=(p9 h).1
 rw [oq] at h
 unfold mx at h
 split at h
 ·cases h
 split at h
 ·cases h
 split at h
 ·cases h
 rename_i h1 h2 h3
 cases hc:jg s ((s.getD 8 0).toNat*256+(s.getD 9 0).toNat) 10 [] with
 | inr f=>rw [hc] at h;cases h
 | inl x =>
  obtain ⟨m,b⟩:=x
  rw [hc] at h
  simp only at h
  split at h
  ·cases h
  rename_i h4
  obtain ⟨rfl,rfl⟩:=Prod.mk.inj (Sum.inl.inj h)
  have i:=pw hc
  obtain ⟨l,hl,d,hd,hq⟩:=sw hc (by omega)
  rw [aO] at hl
  subst hl
  rw [aJ,bG] at i
  refine ⟨by simpa using h2,d,?_⟩
  have j:s.drop m=[]:=fI (by omega)
  rw [j,cM] at hd
  have ha:=(s.getD 8 0).toNat_lt
  have o:=(s.getD 9 0).toNat_lt
  have y:(s.getD 8 0).toNat<256:=ha
  have B:(s.getD 9 0).toNat<256:=o
  have q:b.length / 256=(s.getD 8 0).toNat:=by omega
  have r:UInt8.ofNat b.length=s.getD 9 0:=by
   apply eu.1
   have h9:(UInt8.ofNat b.length).toNat=b.length%256:=by simp
   rw [h9]
   omega
  unfold gX
  rw [Ae _ (by rw [az];omega),q,sM,r,←hd]
  have g8:s.getD 8 0=s[8]'(by omega):=by rw [aN,ay (by omega)];rfl
  have g9:s.getD 9 0=s[9]'(by omega):=by rw [aN,ay (by omega)];rfl
  rw [g8,g9]
  have u:s.drop 8=s[8]'(by omega)::s[9]'(by omega)::s.drop 10:=by
   rw [b9 (by omega),b9 (by omega)]
  calc s.take 8++[s[8]'(by omega),s[9]'(by omega)]++s.drop 10=s.take 8++s.drop 8:=by rw [u];simp
   _=s:=cw 8 s
end Go.Proofs.YtkkfmkhbdoeglabGreatDoor
namespace Go.Proofs.YtkkfmkhbdoeglabGreatDoor
open Go.RowKit
structure HV where
 held:Value
 seen:Value
 late:Value
 left:Int
 fail:Int
 dead:Bool
 writes:Int
 r0:Int
 r1:Int
 r2:Int
 r:Nat
 log:Value
def HV.cells (x:HV):Array Value:=#[x.held,x.seen,x.late,.int .i64 x.left,.int .i64 x.fail,.bool x.dead,.int .i64 x.writes,.int .i64 x.r0,.int .i64 x.r1,.int .i64 x.r2,.map (some x.r),x.log]
def HostIs (w:World) (h:Nat) (x:HV):Prop:=w.heap[h]?=some (.cells x.cells 125)
def HV.stop (x:HV):HV := {x with left:=if 0<x.left then x.left-1 else x.left,dead:=x.dead || decide (x.left=0)}
def HV.room (x:HV):Nat→Int
 | 0=>x.r0
 | 1=>x.r1
 | _=>x.r2
theorem HostIs.gr {w w':World} {h:Nat} {x:HV} (b:HostIs w h x) (d:w'.heap[h]?=w.heap[h]?):HostIs w' h x:=d.trans b
theorem HostIs.lt {w:World} {h:Nat} {x:HV} (b:HostIs w h x):h<w.heap.size:=fO b
def strsV (l:List (List UInt8)):List Value:=l.map fun s => .string ⟨s.toArray⟩
theorem nB (l m:List (List UInt8)):strsV (l++m)=strsV l++strsV m:=bm
theorem zF (l:List (List UInt8)):(strsV l).length=l.length:=aG _
structure DpAt (w:World) (base h:Nat) (x:HV) (d:DpS):Prop where
 row:HostIs w h x
 left:x.left=d.left
 dead:x.dead=d.dead
 room:x.room=d.room
 tab:TabAt w x.r d.S
 own:OwnS w base 1 x.log d.log.length (strsV d.log)
 ltyp:CellsOf w x.log 9
 lo:base≤h∧base≤x.r
 lb : -1≤d.left∧d.left≤9223372036854775807
theorem oA (h:Nat) (x:HV) (w:World) (m:HostIs w h x) (lo : -1≤x.left) (B:x.left≤9223372036854775807) :
  Calls Tryz.prog 101 #[.pointer (some ⟨h,0,none⟩)] w fun e w'=>e = .returned (.bool x.stop.dead)∧HostIs w' h x.stop∧w'.heap.size=w.heap.size∧Ext (fun i=>i=h) w w':=by
 obtain ⟨a0,a1,a2,n,s,b,wr,r0,r1,r2,r,lv⟩:=x
 unfold HV.stop
 unfold HostIs HV.cells at m
 simp only at lo B m⊢
 have E:=ab m
 have c3:=ae _ _ 3 _ _ _ m
 have c5:=ae _ _ 5 _ _ _ m
 have f3:=aj _ _ 3 _ _ m
 have f5:=aj _ _ 5 _ _ m
 have D:=fO m
 have q:∀ v:Value,Hid ((w.setCell ⟨h,5,none⟩ v).heap[h]?=some (.cells #[a0,a1,a2,.int .i64 n,.int .i64 s,v,.int .i64 wr,.int .i64 r0,.int .i64 r1,.int .i64 r2,.map (some r),lv] 125)∧(w.setCell ⟨h,5,none⟩ v).heap.size=w.heap.size∧Ext (fun i=>i=h) w (w.setCell ⟨h,5,none⟩ v)) :=
  fun v=>ab ⟨heap_setCell _ _ 5 v m,size_setCell _ _ _,(Ext.refl _ w).setCell _ _ (.inl rfl)⟩
 have y:∀ v u:Value,Hid (((w.setCell ⟨h,5,none⟩ v).setCell ⟨h,3,none⟩ u).heap[h]?=some (.cells #[a0,a1,a2,u,.int .i64 s,v,.int .i64 wr,.int .i64 r0,.int .i64 r1,.int .i64 r2,.map (some r),lv] 125)∧((w.setCell ⟨h,5,none⟩ v).setCell ⟨h,3,none⟩ u).heap.size=w.heap.size∧Ext (fun i=>i=h) w ((w.setCell ⟨h,5,none⟩ v).setCell ⟨h,3,none⟩ u)) :=
  fun v u=>ab ⟨heap_setCell _ _ 3 u (q v).out.1,(size_setCell _ _ _).trans (q v).out.2.1,(q v).out.2.2.setCell _ _ (.inl rfl)⟩
 clear m
 go_enter Tryz.func101,Tryz.ntmps101
 cases b with
 | true =>
  rcases dU n 0 with o | o | o
  ·rw [au (by omega)]
   go_wp2
   go_ret
   obtain ⟨d,j,l⟩:=(q (.bool true)).out
   exact ⟨rfl,d,j,l⟩
  ·subst o
   go_wp2
   go_ret
   obtain ⟨d,j,l⟩:=(q (.bool true)).out
   exact ⟨rfl,d,j,l⟩
  ·rw [aD o]
   go_wp2
   go_ret
   obtain ⟨d,j,l⟩:=(y (.bool true) (.int .i64 (n-1))).out
   exact ⟨rfl,d,j,l⟩
 | false =>
  rcases dU n 0 with o | o | o
  ·have e:decide (n=0)=false:=by simp;omega
   have C:(n==0)=false:=by simp;omega
   rw [au (by omega),e]
   go_wp2
   go_ret
   obtain ⟨d,j,l⟩:=(q (.bool false)).out
   exact ⟨rfl,d,j,l⟩
  ·subst o
   go_wp2
   go_ret
   obtain ⟨d,j,l⟩:=(q (.bool true)).out
   exact ⟨rfl,d,j,l⟩
  ·have e:decide (n=0)=false:=by simp;omega
   have C:(n==0)=false:=by simp;omega
   rw [aD o,e]
   go_wp2
   go_ret
   obtain ⟨d,j,l⟩:=(y (.bool false) (.int .i64 (n-1))).out
   exact ⟨rfl,d,j,l⟩
theorem Bq (h:Nat) (x:HV) (t:Int) (w:World) (j:HostIs w h x) :
  Calls Tryz.prog 103 #[.agg #[.pointer (some ⟨h,0,none⟩)],.int .i64 t] w fun e w'=>e = .returned (.int .i64 (if 0≤t∧t<3 then x.room t.toNat else 0))∧Below w.heap.size w w':=by
 have b:Below w.heap.size w (w.alloc (.cells #[.pointer (some ⟨h,0,none⟩)] 116)):=(Below.refl _ w).alloc (af _) _
 have l:=fR w (.cells #[.pointer (some ⟨h,0,none⟩)] 116)
 have rc:=ae _ _ 0 _ _ _ l
 have m:=fO j
 have d:=j.gr (b.block h m)
 unfold HostIs HV.cells at d
 have o:=ae _ _ 7 _ _ _ d
 have q:=ae _ _ 8 _ _ _ d
 have r:=ae _ _ 9 _ _ _ d
 have i:=ab b
 clear j d l b
 go_enter Tryz.func103,Tryz.ntmps103
 by_cases s:t<0
 ·rw [au (by omega)]
  go_wp2
  go_ret
  exact ⟨rfl,i.out⟩
 ·by_cases h3:3≤t
  ·rw [au (by omega)]
   go_wp2
   go_ret
   exact ⟨rfl,i.out⟩
  ·rw [aD (by omega)]
   obtain rfl | rfl | rfl:t=0∨t=1∨t=2:=by omega
   ·go_wp2
    go_ret
    exact ⟨rfl,i.out⟩
   ·go_wp2
    go_ret
    exact ⟨rfl,i.out⟩
   ·go_wp2
    go_ret
    exact ⟨rfl,i.out⟩
theorem An (h:Nat) (x:HV) (S:List E) (t:Int) (w:World) (V:HostIs w h x) (o:TabAt w x.r S) (hl:S.length≤1000000000) :
  Calls Tryz.prog 102 #[.agg #[.pointer (some ⟨h,0,none⟩)],.int .i64 t] w fun e w'=>e = .returned (.int .i64 (countS t S:Nat))∧Below w.heap.size w w':=by
 obtain ⟨r,Z⟩:∃ r,r=x.r:=⟨_,rfl⟩
 have C:Below w.heap.size w (w.alloc (.cells #[.pointer (some ⟨h,0,none⟩)] 116)):=(Below.refl _ w).alloc (af _) _
 have R0:=fR w (.cells #[.pointer (some ⟨h,0,none⟩)] 116)
 have rc:=ae _ _ 0 _ _ _ R0
 have ag:=fO V
 have W:=V.gr (C.block h ag)
 unfold HostIs HV.cells at W
 have O:=ae _ _ 10 _ _ _ W
 simp only [bQ,aY,bB] at O
 rw [←Z] at O o
 have a6:=o.lt
 obtain ⟨Q,L,X,hp⟩:=o.gr (C.block r o.lt)
 have Y:=ab hp
 have HN:=ab Q.nodup
 have al:(w.alloc (.cells #[.pointer (some ⟨h,0,none⟩)] 116)).heap.size=w.heap.size+1:=by simp
 clear Q hp o V W R0 Z
 go_enter Tryz.func102,Tryz.ntmps102
 go_wp2_with (first | (refine kg rfl _ rfl Tryz.underlying123 rfl X ?_;intro w1 D am a7) | fail)
 rw [al] at D⊢
 try go_frame
 go_loopw [5] (fun n wr=>∃ l:List E,gB wr r (w.heap.size+1) L (l.map zS)∧n = .int .i64 (countS t l:Nat)∧Below w.heap.size w wr) (fun _ wr=>wr.rangeLeft r (w.heap.size+1))
 case atStart=>exact ⟨[],D,rfl,C.trans (am.mono (by omega))⟩
 case round =>
  obtain ⟨l,d,rfl,s⟩:=hrel
  go_wp2_with (first | (refine kK rfl _ rfl rfl d ?_ ?_) | fail)
  ·intro ap
   have av:=ab (ue t (qS (kH d.sub.2.2) HN.out (ap.trans Y.out)))
   go_wp2
   go_ret
   exact ⟨by rw [av.out];rfl,s⟩
  ·intro m B v w2 hx a0 F a1 a9 a2 ba
   obtain ⟨⟨k',N⟩,a3,e⟩:=aB.1 (Y.out.mem_iff.1 hx)
   cases e
   have G:gB w2 r (w.heap.size+1) L ((l++[((m,B),N)]).map zS):=by rw [bm];exact F
   have bb:countS t l≤1000000000:=by
    have h1:countS t l≤l.length:=List.countP_le_length
    have h2:l.length≤S.length:=rM (kH d.sub.2.2) (fun y hy=>tH (Y.out.mem_iff.1 (d.sub.1 _ (aB.2 ⟨y,hy,rfl⟩))))
    omega
   have R:=ab (uf t l ((m,B),N))
   have i:=ab G
   have bc:=s.size
   have u:Below w.heap.size w w2:=s.grown a1 s.size (fun j e=>by cases e;exact dK _)
   have U:=ab d
   clear F G hx a0 a3 d
   unfold kU at a2
   by_cases o:m=t
   ·subst o
    have I:Hid (countS m (l++[((m,B),N)])=countS m l+1):=ab (by rw [R.out,aD rfl])
    go_wp2
    have b:Below w2.heap.size w2 (w2.alloc (.cells #[.int .i64 m,.string ⟨B.toArray⟩] 103)):=(Below.refl _ w2).alloc (af _) _
    have q:=i.out.frame (b.block _ i.out.lt.1) (b.block _ i.out.lt.2)
    have J:=q.left
    have M:=U.out.left
    simp only [aG,aq,ar,aJ] at J M
    exact ⟨⟨_,q,by rw [I.out];rfl,u.trans (b.mono u.size)⟩,by omega⟩
   ·have I:Hid (countS t (l++[((m,B),N)])=countS t l):=ab (by rw [R.out,au o];rfl)
    go_wp2
    have b:Below w2.heap.size w2 (w2.alloc (.cells #[.int .i64 m,.string ⟨B.toArray⟩] 103)):=(Below.refl _ w2).alloc (af _) _
    have q:=i.out.frame (b.block _ i.out.lt.1) (b.block _ i.out.lt.2)
    have J:=q.left
    have M:=U.out.left
    simp only [aG,aq,ar,aJ] at J M
    exact ⟨⟨_,q,by rw [I.out],u.trans (b.mono u.size)⟩,by omega⟩
end Go.Proofs.YtkkfmkhbdoeglabGreatDoor
namespace Go.Proofs.YtkkfmkhbdoeglabGreatDoor
section
variable {P:Program} {Q:Exit→Act→World→Prop} {md:Region.Mode}
def F4 (P:Program) (o:Oper) (Q:Exit→Act→World→Prop):Exit→Act→World→Prop
 | .normal,a,w=>o.wp P a w (Q .normal) Q
 | e,a,w=>Q e a w
def DM (md:Region.Mode) (ops:Array Oper) (n:Nat):Bool :=
 decide (ops.size=n+1)&&(List.range (n+1)).all fun i =>
  ((ops[i]?).map fun o=>o.guard.isNone&&(match o.op with | .select _ _=>false | _=>true)&&(o.after.all fun e => !Region.binds md e || decide (e.on<i)) &&
    (decide (i=n) || (List.range (n+1)).any fun k=>decide (i<k)&&((ops[k]?).map fun b=>b.after.any fun e=>Region.binds md e&&(e.on==i)).getD false)).getD false
theorem DN {ops:Array Oper} {n:Nat} (h:DM md ops n=true):ops.size=n+1∧∀ i,i≤n→∃ o,ops[i]?=some o∧o.guard=none∧(∀ e∈o.after,Region.binds md e=true→e.on<i)∧(i=n∨∃ k d,i<k∧k≤n∧ops[k]?=some d∧∃ e∈d.after,Region.binds md e=true∧e.on=i):=by
 unfold DM at h
 rw [dO,dj,fe] at h
 refine ⟨h.1,fun i q => ?_⟩
 have h2:=h.2 i (cU.2 (by omega))
 cases j:ops[i]? with
 | none=>rw [j] at h2;cases h2
 | some o =>
  rw [j] at h2
  simp only [dX,bR,dO,dJ,dj,Array.all_eq_true',List.any_eq_true,cU,Option.isNone_iff_eq_none,eO] at h2
  obtain ⟨⟨⟨h3,-⟩,h4⟩,h5⟩:=h2
  refine ⟨o,rfl,h3,fun e he m => ?_,?_⟩
  ·rcases h4 e he with h | h
   ·rw [m] at h;cases h
   ·exact h
  ·rcases h5 with h | ⟨k,hk,l,h6⟩
   ·exact .inl h
   ·right
    cases b:ops[k]? with
    | none=>rw [b] at h6;cases h6
    | some d =>
     rw [b] at h6
     simp only [dX,bR,Array.any_eq_true',dO,a8] at h6
     exact ⟨k,d,l,by omega,b,h6⟩
theorem jt {ops:Array Oper} {listed:Array Bool} {i:Nat} : i∈Region.ready md ops listed↔i<ops.size∧listed.getD i true=false∧∃ o,ops[i]?=some o∧∀ e∈o.after,Region.binds md e=true→listed.getD e.on false=true:=by
 unfold Region.ready
 rw [ch,cU,dO,eO]
 refine and_congr_right fun _=>and_congr_right fun _ => ?_
 cases b:ops[i]? with
 | none=>simp
 | some o =>
  simp only [dX,bR,Array.all_eq_true',dJ,eO,eP,exists_eq_left']
  refine forall_congr' fun e=>forall_congr' fun _ => ?_
  cases Region.binds md e <;> simp
def zQ (md:Region.Mode) (ops:Array Oper) (listed:Array Bool):Prop:=∀ i o,ops[i]?=some o→listed.getD i false=true→∀ e∈o.after,Region.binds md e=true→listed.getD e.on false=true
theorem getD_set_true {listed:Array Bool} {i k:Nat} (h:listed.getD k false=true):(listed.setIfInBounds i true).getD k false=true:=by
 rw [aS] at h⊢
 by_cases e:i=k
 ·subst e
  rw [cV]
  split
  ·rfl
  ·rename_i b
   rw [fG (by omega)] at h
   cases h
 ·rw [bZ e]
  exact h
theorem zQ.set {ops:Array Oper} {listed:Array Bool} (h:zQ md ops listed) {i:Nat} (q:i∈Region.ready md ops listed):zQ md ops (listed.setIfInBounds i true):=by
 obtain ⟨h1,h2,o,r,h3⟩:=jt.1 q
 intro j s b d e he l
 by_cases m:i=j
 ·subst m
  rw [r] at b
  cases b
  exact getD_set_true (h3 e he l)
 ·refine getD_set_true (h j s b ?_ e he l)
  rw [aS,bZ m] at d
  rw [aS]
  exact d
theorem Oper.BI {o last:Oper} {a:Act} {w:World} {K:Act→World→Prop} (h:Oper.wp P o a w K (F4 P last Q)):Oper.wp P o a w K Q:=by
 unfold Oper.wp at *
 generalize (execOp a.eval o).run P w=r at *
 cases r with
 | ok n w' =>
  cases n <;> simp only [Oper.upon] at h⊢<;> first | exact h | exact Calls.mono h (fun e b he=>by cases e <;> exact he)
 | halt x w'=>cases x <;> simp only [Oper.upon] at h⊢<;> exact h
theorem Dz {ops:Array Oper} {n:Nat} {last:Oper} (hF:DM md ops n=true) (hl:ops[n]?=some last):∀ (f:Nat) (listed:Array Bool) (a:Act) (w:World),listed.size=n→zQ md ops (listed.push false)→
  wpAny P md (ops.extract 0 n) (F4 P last Q) f listed a w→wpAny P md ops Q (f+1) (listed.push false) a w:=by
 obtain ⟨ap,u⟩:=DN hF
 have B:∀ i,i<n→(ops.extract 0 n)[i]?=ops[i]?:=fun i b=>by
  rw [Array.getElem?_extract_of_lt (by omega)]
  simp
 have O:(ops.extract 0 n).size=n:=by simp;omega
 have E:∀ (listed:Array Bool),listed.size=n→∀ k d,k<n→(listed.push false).getD k d=listed.getD k d:=fun listed hs k d hk=>by
  rw [aS,aS,eH (by omega),cx (by omega)]
 have gn:∀ (listed:Array Bool),listed.size=n→∀ d,(listed.push false).getD n d=false:=fun listed hs d=>by
  rw [aS,←hs,ft]
  rfl
 have J:∀ (listed:Array Bool),listed.size=n→∀ i,i<n→(i∈Region.ready md ops (listed.push false)↔i∈Region.ready md (ops.extract 0 n) listed):=fun listed hs i b=>by
  rw [jt,jt,O,ap,B i b,E listed hs i true b]
  obtain ⟨o,l,-,s,-⟩:=u i (by omega)
  rw [l]
  constructor
  ·rintro ⟨-,h2,Y,e,h3⟩
   cases e
   exact ⟨b,h2,o,rfl,fun e he q=>by have:=h3 e he q;rwa [E listed hs _ _ (by have:=s e he q;omega)] at this⟩
  ·rintro ⟨-,h2,Y,e,h3⟩
   cases e
   exact ⟨by omega,h2,o,rfl,fun e he q=>by rw [E listed hs _ _ (by have:=s e he q;omega)];exact h3 e he q⟩
 have Z:∀ (listed:Array Bool),listed.size=n→zQ md ops (listed.push false)→n∈Region.ready md ops (listed.push false)→∀ i,i<n→listed.getD i false=true:=fun listed hs hd C=>by
  obtain ⟨-,-,o,l,aa⟩:=jt.1 C
  have key:∀ m i,i<n→n-i≤m→(listed.push false).getD i false=true:=by
   intro m
   induction m with
   | zero=>intro i b hm;omega
   | succ m ih =>
    intro i b hm
    obtain ⟨-,-,-,-,hk⟩:=u i (by omega)
    rcases hk with rfl | ⟨k,Y,a6,a7,R,e,he,q,rfl⟩
    ·omega
    ·by_cases ag:k=n
     ·subst ag
      rw [l] at R
      cases R
      exact aa e he q
     ·exact hd k Y R (ih k (by omega) (by omega)) e he q
  intro i b
  have:=key n i b (by omega)
  rwa [E listed hs i _ b] at this
 have M:∀ (listed:Array Bool),listed.size=n→Region.ready md (ops.extract 0 n) listed=[]→∀ i,i<n→listed.getD i false=true:=fun listed hs D=>by
  intro i
  induction i using Nat.strongRecOn with
  | _ i ih =>
   intro b
   cases F:listed.getD i false with
   | true=>rfl
   | false =>
    have:i∈Region.ready md (ops.extract 0 n) listed:=by
     obtain ⟨o,l,-,s,-⟩:=u i (by omega)
     refine jt.2 ⟨by omega,?_,o,(B i b).trans l,fun e he q=>ih e.on (s e he q) (by have:=s e he q;omega)⟩
     rw [aS,cx (by omega)] at F⊢
     exact F
    rw [D] at this
    cases this
 intro f
 induction f with
 | zero =>
  rintro listed a w hs hd ⟨D,hq⟩
  have G:=M listed hs D
  have C:n∈Region.ready md ops (listed.push false):=by
   obtain ⟨o,l,-,s,-⟩:=u n (af _)
   exact jt.2 ⟨by omega,gn listed hs true,o,l,fun e he q=>by have:=s e he q;rw [E listed hs _ _ this];exact G _ this⟩
  refine ⟨(fun h=>by rw [h] at C;cases C),fun i b => ?_⟩
  have x:i=n:=by
   have h1:=(jt.1 b).1
   refine et fun aE => ?_
   have:=(J listed hs i (by omega)).1 b
   rw [D] at this
   cases this
  subst x
  unfold wpOp
  simp only [hl]
  obtain ⟨o,l,F,-⟩:=u i (af _)
  rw [hl] at l
  cases l
  rw [aD (by simp [Region.wanted,F])]
  refine .inl (Oper.wp_mono (fun a' w' hQ=>⟨?_,hQ⟩) hq)
  refine List.eq_nil_iff_forall_not_mem.2 fun j N => ?_
  obtain ⟨j1,r,-⟩:=jt.1 N
  by_cases I:j=i
  ·subst I
   rw [aS,cV,aD (by simp;omega)] at r
   cases r
  ·rw [aS,bZ (dx I),←aS,E listed hs j _ (by omega)] at r
   have:=G j (by omega)
   rw [aS,cx (by omega)] at this r
   simp only [bR] at this r
   rw [this] at r
   cases r
 | succ f ih =>
  rintro listed a w hs hd ⟨hq,hA⟩
  by_cases D:Region.ready md (ops.extract 0 n) listed=[]
  ·
   have G:=M listed hs D
   have C:n∈Region.ready md ops (listed.push false):=by
    obtain ⟨o,l,-,s,-⟩:=u n (af _)
    exact jt.2 ⟨by omega,gn listed hs true,o,l,fun e he q=>by have:=s e he q;rw [E listed hs _ _ this];exact G _ this⟩
   refine ⟨(fun h=>by rw [h] at C;cases C),fun i b => ?_⟩
   have x:i=n:=by
    have h1:=(jt.1 b).1
    refine et fun aE => ?_
    have:=(J listed hs i (by omega)).1 b
    rw [D] at this
    cases this
   subst x
   unfold wpOp
   simp only [hl]
   obtain ⟨o,l,F,-⟩:=u i (af _)
   rw [hl] at l
   cases l
   rw [aD (by simp [Region.wanted,F])]
   refine .inl (Oper.wp_mono (fun a' w' hQ => ?_) (hq D))
   have a0:Region.ready md ops ((listed.push false).setIfInBounds i true)=[]:=by
    refine List.eq_nil_iff_forall_not_mem.2 fun j N => ?_
    obtain ⟨j1,r,-⟩:=jt.1 N
    by_cases I:j=i
    ·subst I
     rw [aS,cV,aD (by simp;omega)] at r
     cases r
    ·rw [aS,bZ (dx I),←aS,E listed hs j _ (by omega)] at r
     have:=G j (by omega)
     rw [aS,cx (by omega)] at this r
     simp only [bR] at this r
     rw [this] at r
     cases r
   refine ⟨fun _=>hQ,(fun j N=>by rw [a0] at N;cases N)⟩
  ·obtain ⟨j0,W⟩:=List.exists_mem_of_ne_nil _ D
   have S:=jt.1 W
   have X:j0<n:=by rw [O] at S;exact S.1
   have a1:n∉Region.ready md ops (listed.push false):=fun C=>by
    have h1:=Z listed hs hd C j0 X
    have h2:=S.2.1
    rw [aS,cx (by omega)] at h1 h2
    simp only [bR] at h1 h2
    rw [h1] at h2
    cases h2
   refine ⟨fun h => ?_,fun i b => ?_⟩
   ·have:=(J listed hs j0 X).2 W
    rw [h] at this
    cases this
   ·have x:i<n:=by
     have h1:=(jt.1 b).1
     have:i≠n:=fun e=>a1 (e▸b)
     omega
    have y:=hA i ((J listed hs i x).1 b)
    obtain ⟨o,l,F,-⟩:=u i (by omega)
    have U:(listed.push false).setIfInBounds i true=(listed.setIfInBounds i true).push false:=by
     refine Array.ext_getElem? fun k => ?_
     by_cases e:i=k
     ·subst e
      rw [cV,aD (by simp;omega),eH (by simp;omega),←cx,cV,aD (by omega)]
     ·rw [bZ e]
      by_cases hk:k<n
      ·rw [eH (by omega),eH (by simp;omega),←cx,←cx,bZ e]
      ·by_cases a2:k=n
       ·subst a2
        rw [←hs,ft,show listed.size=(listed.setIfInBounds i true).size by simp,ft]
       ·rw [fG (by simp;omega),fG (by simp;omega)]
    unfold wpOp at y⊢
    rw [B i x,l] at y
    simp only [l]
    have hw:∀ V,Region.wanted o (yielded V a.tmps)=true:=fun V=>by simp [Region.wanted,F]
    simp only [hw,dM] at y⊢
    rcases y with y | ⟨h1,h2⟩
    ·refine .inl (Oper.wp_mono (fun a' w' h' => ?_) (Oper.BI y))
     rw [U]
     exact ih (listed.setIfInBounds i true) a' w' (by simpa using hs) (by rw [←U];exact hd.set b) h'
    ·exact .inr ⟨h1,h2⟩
theorem qu (n:Nat):(Array.replicate n false).push false=Array.replicate (n+1) false:=by
 rw [bf]
theorem iB {id n:Nat} {ops:Array Oper} {last:Oper} {S:World→Prop} {a:Act} {w:World} (hm:P.follows .mixedOrders=true) (hF:DM .any ops n=true) (hl:ops[n]?=some last) (j:S w.drew)
  (h:S w.drew→wpAnyH P .any (ops.extract 0 n) (F4 P last Q) S n (Array.replicate n false) a w.drew):(Code.region id ops true).wp P Q a w:=by
 refine wp_region_any hm ?_
 rw [(DN hF).1,←qu]
 refine Dz hF hl n _ a _ (by simp) ?_ (wpAny_of_held _ _ _ _ (h j))
 intro i o l b
 rw [qu,aS] at b
 by_cases d:i<n+1
 ·rw [Array.getElem?_replicate,aD d] at b
  cases b
 ·rw [Array.getElem?_replicate,au d] at b
  cases b
end
end Go.Proofs.YtkkfmkhbdoeglabGreatDoor
namespace Go.Proofs.YtkkfmkhbdoeglabGreatDoor
open Go.RowKit Go.Shelf
theorem vI (t:Int):((lX t).toNat:Int)=IntKind.u8.wrap t:=by
 have h:IntKind.u8.wrap t=t%256:=rfl
 rw [h]
 unfold lX
 simp
 omega
theorem qW {P:Program} (p q:List UInt8) (hl:p.length+q.length≤9223372036854775807) (w:World):(Op.stringOp .add ⟨p.toArray⟩ ⟨q.toArray⟩).run P w = .ok (.string ⟨(p++q).toArray⟩) w:=by
 rw [run_string_add_sum w _ _ (by simp [ByteArray.size];omega),ByteArray.mk_append_mk]
theorem CellsOf.ne {w:World} {v:Value} {e T:TypeId} {b:Nat} {C:Array Value} {fz:Nat×Nat} (h:CellsOf w v e) (i:w.heap[b]?=some (.cells C T fz)) (j:T≠e):v.ownBlock≠some b:=fun he=>by
 obtain ⟨m,l,d⟩:=h b he
 rw [i] at d
 cases d
 exact j rfl
theorem CellsOf.qk {w:World} {v:Value} {e:TypeId} {r:Nat} {S:List E} (h:CellsOf w v e) (d:TabAt w r S):v.ownBlock≠some r:=fun he=>by
 obtain ⟨j,i,b⟩:=h r he
 obtain ⟨-,L,⟨es,cl,hm,-⟩,-⟩:=d
 rw [hm] at b
 cases b
theorem TabAt.jZ {w:World} {r:Nat} {S:List E} {b:Nat} {C:Array Value} {T:TypeId} {fz:Nat×Nat} (i:TabAt w r S) (d:w.heap[b]?=some (.cells C T fz)):b≠r:=fun he=>by
 obtain ⟨-,L,⟨es,cl,hm,-⟩,-⟩:=i
 rw [he,hm] at d
 cases d
theorem CellsOf.frame {w w':World} {v:Value} {e:TypeId} (h:CellsOf w v e) (j:∀ b,v.ownBlock=some b→b<w.heap.size→w'.heap[b]?=w.heap[b]?):CellsOf w' v e:=fun b d=>by
 obtain ⟨C,fz,i⟩:=h b d
 exact ⟨C,fz,(j b d (fO i)).trans i⟩
theorem DP:(Tryz.prog.info? 9).map (fun i=>(i.zero,i.size,i.bytes))=some (some (.string ⟨#[]⟩),1,16):=by kernel_rfl
theorem tQ (w:World) (s:List UInt8):fW (w.alloc (.cells #[.string ⟨s.toArray⟩] 9)) (.slice (some ⟨w.heap.size,0,none⟩) 1 1) 1 1 (strsV [s]):=by
 refine ⟨rfl,_,1,rfl,af _,fun i b=>⟨_,0,rfl,?_⟩⟩
 obtain rfl:i=0:=by simp [strsV] at b;omega
 rw [lY]
 rfl
theorem yF (l:List (List UInt8)):∀ u∈strsV l,u.oneCell'=true:=by
 intro u hu
 obtain ⟨s,-,rfl⟩:=aB.1 hu
 rfl
theorem qY {P:Program} (w:World) (base:Nat) (t o ty e:TypeId) (i:TypeInfo) (z:Value) (y:P.underlying t=some (.slice e)) (B:P.info? e=some i) (C:i.zero=some z) (q:z.cells.size=i.size) (r:0<i.size)
  (v:Value) (n:Nat) (xs:List Value) (l:OwnS w base i.size v n xs) (G:CellsOf w v e) (x:Value) (m:Nat) (news:List Value) (hs:Src P i.size o x m news w)
  (s:n+m≤maxLen) (d:(n+m)*i.bytes≤140737488355328) (j:base≤w.heap.size) :
  ∃ v' w',(Builtin.append_ #[t,o] ty #[v,x]).run P w = .ok v' w'∧OwnS w' base i.size v' (n+m) (xs++news)∧w.grownBy w' v.ownBlock∧CellsOf w' v' e∧∀ b,v'.ownBlock=some b→v.ownBlock=some b∨b=w.heap.size:=by
 obtain ⟨v',w',D,h1,h2,h3⟩:=jR (P:=P) w base t o ty e i z y B C q r v n xs l G x m news hs s d j
 obtain ⟨M,N,E,-,-,F⟩:=j6 (P:=P) w base t o ty e i z y B C q r v n xs l x m news hs s d j
 have hw:=E.symm.trans D
 injection hw with I J
 subst I J
 refine ⟨_,_,D,h1,h2,h3,fun b u => ?_⟩
 rcases F with ⟨g,off,cap,rfl,rfl,-⟩ | rfl | ⟨cap,rfl,-⟩
 ·exact .inl u
 ·simp [Value.ownBlock] at u
 ·right
  simpa [Value.ownBlock] using u.symm
theorem j9 {P:Program} {o:Oper} {a:Act} {K:Act→World→Prop} {Q:Exit→Act→World→Prop} {w:World} (s x:Operand) (t l:TypeId)
  (B:o.op = .call {callee := .builtin .append,args:=#[s,x],argTypes:=#[t,l]})
  (base k:Nat) (e:TypeId) (i:TypeInfo) (z:Value) (C:P.underlying t=some (.slice e)) (D:P.info? e=some i) (E:i.zero=some z) (hk:i.size=k) (r:z.cells.size=i.size) (u:0<i.size)
  (v:Value) (n:Nat) (xs:List Value) (F:a.eval s=v) (q:OwnS w base k v n xs) (G:CellsOf w v e) (m:Nat) (news:List Value) (hs:Src P k l (a.eval x) m news w)
  (y:n+m≤maxLen) (d:(n+m)*i.bytes≤140737488355328) (j:base≤w.heap.size)
  (h:∀ v' w',OwnS w' base k v' (n+m) (xs++news)→w.grownBy w' v.ownBlock→CellsOf w' v' e→(∀ b,v'.ownBlock=some b→v.ownBlock=some b∨b=w.heap.size)→K (a.put o.dst v') w'):o.wp P a w K Q:=by
 subst hk
 obtain ⟨v',w',I,h1,h2,h3,h4⟩:=qY (P:=P) w base t l o.type e i z C D E r u v n xs q G (a.eval x) m news hs y d j
 unfold Oper.wp execOp
 simp only [B,resolve,invoke,builtin,cn,fM,cg,eF,bq,du,F,I]
 exact h v' w' h1 h2 h3 h4
theorem mz {ops:Array Oper} {o:Oper} {a:Act} {K:Act→World→Prop} {Q:Exit→Act→World→Prop} {E:Prop} {w:World} (q:o.guard=none) (s x:Operand)
  (y:o.op = .call {callee := .builtin .append,args:=#[s,x],argTypes:=#[28,28]})
  (base:Nat) (v:Value) (n:Nat) (l:List (List UInt8)) (F:n=l.length) (B:a.eval s=v) (j:OwnS w base 1 v n (strsV l)) (C:CellsOf w v 9) (m:List (List UInt8)) (hs:fW w (a.eval x) 1 m.length (strsV m))
  (hlen:n+m.length≤8796093022208) (d:base≤w.heap.size)
  (h:∀ v' w',OwnS w' base 1 v' (n+m.length) (strsV (l++m))→w.grownBy w' v.ownBlock→CellsOf w' v' 9→(∀ b,v'.ownBlock=some b→v.ownBlock=some b∨b=w.heap.size)→
   K (a.put o.dst v') w'):if Region.wanted o (yielded ops a.tmps)=true then Oper.wp Tryz.prog o a w K Q else E:=by
 have hw:Region.wanted o (yielded ops a.tmps)=true:=by simp [Region.wanted,q]
 rw [aD hw]
 obtain ⟨i0,D,r,i,u⟩:=dD DP
 have hmx:maxLen=9223372036854775807:=rfl
 refine j9 s x _ _ y base 1 9 i0 (.string ⟨#[]⟩) Tryz.underlying28 D r i (by rw [i];rfl) (by omega) v n (strsV l) B j C m.length (strsV m) (fW.src Tryz.underlying28 hs (yF m)) (by omega) (by rw [u];omega) d (fun v' w' h1 h2 h3 h4 => ?_)
 rw [←nB] at h1
 exact h v' w' h1 h2 h3 h4
def BP (base h:Nat) (x:HV) (d':DpS) (w:World) (e:Ending) (w':World):Prop:=e = .returned (.tuple #[])∧∃ lv,DpAt w' base h {x with left:=d'.left,dead:=d'.dead,log:=lv} d'∧Ext (fun i=>i=h∨i=x.r∨x.log.ownBlock=some i) w w'∧∀ i,lv.ownBlock=some i→x.log.ownBlock=some i∨w.heap.size≤i
theorem Cn (base h:Nat) (x:HV) (d:DpS) (t:Int) (m:List UInt8) (w:World) (hd:DpAt w base h x d) (C:base≤w.heap.size) (bv:d.log.length≤8000000000000) (hk:m.length≤gF) :
  Calls Tryz.prog 242 #[.agg #[.pointer (some ⟨h,0,none⟩)],.agg #[.int .i64 t,.string ⟨m.toArray⟩]] w (BP base h x (d.drop (t,m)) w):=by
 have a7:Below w.heap.size w ((w.alloc (.cells #[.pointer (some ⟨h,0,none⟩)] 116)).alloc (.cells #[.int .i64 t,.string ⟨m.toArray⟩] 103)):=((Below.refl _ w).alloc (af _) _).alloc (by simp) _
 have R0:=fX _ (.cells #[.int .i64 t,.string ⟨m.toArray⟩] 103) (fR w (.cells #[.pointer (some ⟨h,0,none⟩)] 116))
 have R1:=fR (w.alloc (.cells #[.pointer (some ⟨h,0,none⟩)] 116)) (.cells #[.int .i64 t,.string ⟨m.toArray⟩] 103)
 rw [aw] at R1
 have rc:=ae _ _ 0 _ _ _ R0
 obtain ⟨s,aE,a0,a1,E,a9,D,bw,bx⟩:=hd
 have ba:=fO s
 have H0:=s.gr (a7.block h ba)
 have HW:=ab a7
 have HK:=ab (vI t)
 have lo : -1≤x.left:=by omega
 have hi:x.left≤9223372036854775807:=by omega
 have cv:=ab (oA h x _ H0 lo hi)
 have bb:=ab (D.ne s (by decide))
 have bc:=ab (E.jZ s)
 have cB:=ab (D.qk E)
 have b7:Hid (x.r<w.heap.size):=ab E.lt
 have bz:=ab bw
 have c0:=ab bx
 have HL:=ab aE
 have HD:=ab a0
 have bD:=ab a1
 have HT:=ab E
 have HO:=ab a9
 have c1:=ab D
 have c2:=ab R0
 have c3:=ab R1
 have HB:=ab C
 have c4:=ab bv
 have d6:=ab s
 clear bw bx aE a0 a1 E a9 D R0 R1 a7 H0 lo hi C bv s
 go_enter Tryz.func242,Tryz.ntmps242
 go_wp2_with fail
 refine cv.out.mono ?_
 rintro e w2 ⟨rfl,bH,be,a2⟩
 have bi:w.heap.size≠h:=by omega
 have bk:w.heap.size+1≠h:=by omega
 have R:=ab (a2.at bi c2.out)
 have F:=ab (a2.at bk c3.out)
 have aa:=ab bH
 have c5:=ab a2
 have bI:Hid (w2.heap.size=w.heap.size+2):=ab (by rw [be];simp)
 clear bH a2 be rc bi bk
 have rc:=ae _ _ 0 _ _ _ R.out
 have ag:Hid (Ext (fun i=>i=h) w w2):=ab ((Ext.fT HW.out).trans c5.out)
 have bL:Hid (Ext (fun i=>i=h∨i=x.r∨x.log.ownBlock=some i) w w2):=ab (ag.out.mono fun i e => .inl e)
 have bM:Hid (OwnS w2 base 1 x.log d.log.length (strsV d.log)):=ab (HO.out.frame ag.out.size fun b e C=>ag.out.block b C fun U=>bb.out (by rw [e,U]))
 have V:Hid (CellsOf w2 x.log 9):=ab (c1.out.frame fun b e C=>ag.out.block b C fun U=>bb.out (by rw [e,U]))
 have ak:Hid (TabAt w2 x.r d.S):=ab (HT.out.gr (ag.out.block _ b7.out (dx bc.out)))
 have B:Hid (x.stop.dead=d.stop.dead∧x.stop.left=d.stop.left):=ab (by unfold HV.stop DpS.stop;rw [HL.out,HD.out];exact ⟨rfl,rfl⟩)
 have bl:Hid (-1≤d.stop.left∧d.stop.left≤9223372036854775807):=ab (by have:=c0.out;unfold DpS.stop;simp only;split <;> omega)
 cases hdd:x.stop.dead with
 | true =>
  go_wp2
  refine aI (dF rfl _ _ _) rfl ?_
  have e:d.drop (t,m)=d.stop:=by unfold DpS.drop;rw [←B.out.1,hdd];rfl
  refine ⟨rfl,x.log,?_,bL.out,fun i e => .inl e⟩
  rw [e,←B.out.1,←B.out.2]
  exact ⟨aa.out,B.out.2,B.out.1,bD.out,ak.out,bM.out,V.out,bz.out,bl.out⟩
 | false =>
  unfold HostIs HV.cells at *
  have en:=ae _ _ 11 _ _ _ aa.out
  have f9:=aj _ _ 11 _ _ aa.out
  have G:=ae _ _ 0 _ _ _ F.out
  have I:=ae _ _ 1 _ _ _ F.out
  have eg:=fO aa.out
  have ej:=fO F.out
  have d7:=fO R.out
  have c6:Hid (BytesAt (w2.alloc (.cells #[.int .u8 (IntKind.u8.wrap t)] 5)) (.slice (some ⟨w2.heap.size,0,none⟩) 1 1) [lX t]):=ab (by rw [←HK.out];exact qn w2 (lX t))
  go_wp2
  have hcv:=BytesAt.convert (w:=(w2.alloc (.cells #[.int .u8 (IntKind.u8.wrap t)] 5)).drew) (by exact c6.out)
  have c7:=fun W=>qW (P:=Tryz.prog) [100,114,111,112,32] [lX t] (by simp) W
  have c8:=fun W=>qW (P:=Tryz.prog) [100,114,111,112,32,lX t] m (by unfold gF at hk;simp;omega) W
  have bN:=fun o o'=>ab (Below.drew (Below.al (Below.al (Below.rf w2) o) o'))
  have bO:=ab (tQ (w2.alloc (.cells #[.int .u8 (IntKind.u8.wrap t)] 5)) (100::114::111::112::32::lX t::m))
  rw [aw] at bO
  rw [bQ] at rc G I
  simp only [bB,aY] at rc G I
  simp only [bQ,bB,aY] at en
  have a3:=fun o=>ab (show _∧_∧_∧_ from ⟨gC o rc,gC o G,gC o I,gC o en⟩)
  have a4:=fun o o'=>ab (show _∧_∧_∧_ from ⟨gC o' (gC o rc),gC o' (gC o G),gC o' (gC o I),gC o' (gC o en)⟩)
  refine iB (n:=20) (S:=fun w'=>w'.cell? ⟨w.heap.size,0,none⟩=some (.pointer (some ⟨h,0,none⟩))∧w'.cell? ⟨w.heap.size+1,0,none⟩=some (.int .i64 t)∧w'.cell? ⟨w.heap.size+1,1,none⟩=some (.string ⟨m.toArray⟩)∧w'.cell? ⟨h,11,none⟩=some x.stop.log) (by kernel_rfl) (by kernel_rfl) rfl (by first | exact ⟨rc,G,I,en⟩ | exact (a3 _).out | exact (a4 _ _).out) ?_
  intro b8
  simp only [cI,cc,cy,cJ,bA,cd,bf,bu,bT,aO,aX]
  refine wpAnyH_take (i:=0) (v := ?_) rfl (by kernel_rfl) (by kernel_rfl) (by kernel_rfl) (fun _ _ _ h=>h) (Or.inl ⟨by rfl,?_⟩) (by assumption) ?_
  rotate_left 1
  ·(intro w l;(try dsimp only at l);go_simp;(try with_reducible rfl))
  try simp only [Act.put,ah,ai]
  refine wpAnyH_take (i:=1) (v := ?_) rfl (by kernel_rfl) (by kernel_rfl) (by kernel_rfl) (fun _ _ _ h=>h) (Or.inl ⟨by rfl,?_⟩) (by assumption) ?_
  rotate_left 1
  ·(intro w l;(try dsimp only at l);go_simp;(try with_reducible rfl))
  try simp only [Act.put,ah,ai,ao]
  refine wpAnyH_take (i:=2) (v := ?_) rfl (by kernel_rfl) (by kernel_rfl) (by kernel_rfl) (fun _ _ _ h=>h) (Or.inl ⟨by rfl,?_⟩) (by assumption) ?_
  rotate_left 1
  ·(intro w l;(try dsimp only at l);go_simp;(try with_reducible rfl))
  try simp only [Act.put,ah,ai,ao]
  refine wpAnyH_take (i:=3) (v := ?_) rfl (by kernel_rfl) (by kernel_rfl) (by kernel_rfl) (fun _ _ _ h=>h) (Or.inl ⟨by rfl,?_⟩) (by assumption) ?_
  rotate_left 1
  ·(intro w l;(try dsimp only at l);go_simp;(try with_reducible rfl))
  try simp only [Act.put,ah,ai,ao]
  refine wpAnyH_take (i:=4) (v := ?_) rfl (by kernel_rfl) (by kernel_rfl) (by kernel_rfl) (fun _ _ _ h=>h) (Or.inl ⟨by rfl,?_⟩) (by assumption) ?_
  rotate_left 1
  ·(intro w l;(try dsimp only at l);go_simp;(try with_reducible rfl))
  try simp only [Act.put,ah,ai,ao]
  refine wpAnyH_take (i:=5) (v := ?_) rfl (by kernel_rfl) (by kernel_rfl) (by kernel_rfl) (fun _ _ _ h=>h) (Or.inl ⟨by rfl,?_⟩) (by assumption) ?_
  rotate_left 1
  ·(intro w l;(try dsimp only at l);go_simp;(try with_reducible rfl))
  try simp only [Act.put,ah,ai,ao]
  refine wpAnyH_take (i:=6) (v := ?_) rfl (by kernel_rfl) (by kernel_rfl) (by kernel_rfl) (fun _ _ _ h=>h) (Or.inl ⟨by rfl,?_⟩) (by assumption) ?_
  rotate_left 1
  ·(intro w l;(try dsimp only at l);go_simp;(try with_reducible rfl))
  try simp only [Act.put,ah,ai,ao]
  refine wpAnyH_take (i:=7) (v := ?_) rfl (by kernel_rfl) (by kernel_rfl) (by kernel_rfl) (fun _ _ _ h=>h) (Or.inl ⟨by rfl,?_⟩) (by assumption) ?_
  rotate_left 1
  ·(intro w l;(try dsimp only at l);go_simp;(try with_reducible rfl))
  try simp only [Act.put,ah,ai,ao]
  refine wpAnyH_take (i:=8) (v := ?_) rfl (by kernel_rfl) (by kernel_rfl) (by kernel_rfl) (fun _ _ _ h=>h) (Or.inl ⟨by rfl,?_⟩) (by assumption) ?_
  rotate_left 1
  ·(intro w l;(try dsimp only at l);go_simp;(try with_reducible rfl))
  try simp only [Act.put,ah,ai,ao]
  refine wpAnyH_take (i:=9) (v := ?_) rfl (by kernel_rfl) (by kernel_rfl) (by kernel_rfl) (fun _ _ _ h=>h) (Or.inl ⟨by rfl,?_⟩) (by assumption) ?_
  rotate_left 1
  ·(intro w l;(try dsimp only at l);go_simp;(try with_reducible rfl))
  try simp only [Act.put,ah,ai,ao]
  refine wpAnyH_take (i:=13) (v := ?_) rfl (by kernel_rfl) (by kernel_rfl) (by kernel_rfl) (fun _ _ _ h=>h) (Or.inl ⟨by rfl,?_⟩) (by assumption) ?_
  rotate_left 1
  ·(intro w l;(try dsimp only at l);go_simp;(try with_reducible rfl))
  try simp only [Act.put,ah,ai,ao]
  refine wpAnyH_take (i:=14) (v := ?_) rfl (by kernel_rfl) (by kernel_rfl) (by kernel_rfl) (fun _ _ _ h=>h) (Or.inl ⟨by rfl,?_⟩) (by assumption) ?_
  rotate_left 1
  ·(intro w l;(try dsimp only at l);go_simp;(try with_reducible rfl))
  try simp only [Act.put,ah,ai,ao]
  refine wpAnyH_ready (rs:=[10]) (by kernel_rfl) (by simp) ?_
  refine AllReadyH.cons rfl ?_ AllReadyH.nil
  intro K' hK'
  go_simp
  refine hK'.out _ _ (by first | exact ⟨rc,G,I,en⟩ | exact (a3 _).out | exact (a4 _ _).out) ?_
  clear hK' K'
  intro ca
  try simp only [ah,ai,ao]
  refine wpAnyH_ready (rs:=[11]) (by kernel_rfl) (by simp) ?_
  refine AllReadyH.cons rfl ?_ AllReadyH.nil
  intro K' hK'
  go_simp
  refine hK'.out _ _ (by first | exact ⟨rc,G,I,en⟩ | exact (a3 _).out | exact (a4 _ _).out) ?_
  clear hK' K'
  intro cb
  try simp only [ah,ai,ao]
  refine wpAnyH_take (i:=12) (v := ?_) rfl (by kernel_rfl) (by kernel_rfl) (by kernel_rfl) (fun _ _ _ h=>h) (Or.inl ⟨by rfl,?_⟩) (by assumption) ?_
  rotate_left 1
  ·(intro w l;(try dsimp only at l);go_simp;(try with_reducible rfl))
  try simp only [Act.put,ah,ai,ao]
  refine wpAnyH_take (i:=15) (v := ?_) rfl (by kernel_rfl) (by kernel_rfl) (by kernel_rfl) (fun _ _ _ h=>h) (Or.inl ⟨by rfl,?_⟩) (by assumption) ?_
  rotate_left 1
  ·(intro w l;(try dsimp only at l);go_simp;(try with_reducible rfl))
  try simp only [Act.put,ah,ai,ao]
  refine wpAnyH_ready (rs:=[16]) (by kernel_rfl) (by simp) ?_
  refine AllReadyH.cons rfl ?_ AllReadyH.nil
  intro K' hK'
  go_simp
  refine hK'.out _ _ (by first | exact ⟨rc,G,I,en⟩ | exact (a3 _).out | exact (a4 _ _).out) ?_
  clear hK' K'
  intro ce
  try simp only [ah,ai,ao]
  refine wpAnyH_ready (rs:=[17]) (by kernel_rfl) (by simp) ?_
  refine AllReadyH.cons rfl ?_ AllReadyH.nil
  intro K' hK'
  refine mz rfl (.tmp 13) (.tmp 23) rfl base _ _ d.log rfl rfl (by exact bM.out.below (bN _ _).out) (by exact V.out.frame fun b _ C=>(bN _ _).out.block b C) [oR (t,m)] (by exact bO.out) (by have:=c4.out;simp;omega) (by have:=HB.out;have:=bI.out;simp;omega) ?_;intro v3 w3 X q Y bP;obtain ⟨ap,J,rfl⟩:=X.shape;have N:=ab (iN q bb.out (fX _ (.cells #[.string ⟨(100::114::111::112::32::lX t::m).toArray⟩] 9) (fX _ (.cells #[.int .u8 (IntKind.u8.wrap t)] 5) aa.out)));have bS:=ab (iN q (V.out.ne R.out (by decide)) (fX _ (.cells #[.string ⟨(100::114::111::112::32::lX t::m).toArray⟩] 9) (fX _ (.cells #[.int .u8 (IntKind.u8.wrap t)] 5) R.out)));have bn:=ab (iN q (V.out.ne F.out (by decide)) (fX _ (.cells #[.string ⟨(100::114::111::112::32::lX t::m).toArray⟩] 9) (fX _ (.cells #[.int .u8 (IntKind.u8.wrap t)] 5) F.out)));refine hK'.out _ _ ⟨ae _ _ 0 _ _ _ bS.out,ae _ _ 0 _ _ _ bn.out,ae _ _ 1 _ _ _ bn.out,ae _ _ 11 _ _ _ N.out⟩ ?_
  clear hK' K'
  intro ci
  try simp only [Act.put,ah,ai,ao]
  refine wpAnyH_take (i:=18) (v := ?_) rfl (by kernel_rfl) (by kernel_rfl) (by kernel_rfl) (fun _ _ _ h=>h) (Or.inl ⟨by rfl,?_⟩) (by assumption) ?_
  rotate_left 1
  ·(intro w l;(try dsimp only at l);go_simp;(try with_reducible rfl))
  try simp only [Act.put,ah,ai,ao]
  refine wpAnyH_take (i:=19) (v := ?_) rfl (by kernel_rfl) (by kernel_rfl) (by kernel_rfl) (fun _ _ _ h=>h) (Or.inl ⟨by rfl,?_⟩) (by assumption) ?_
  rotate_left 1
  ·(intro w l;(try dsimp only at l);go_simp;(try with_reducible rfl))
  try simp only [Act.put,ah,ai,ao]
  refine wpAnyH_done (by kernel_rfl) ?_ _
  show Oper.wp _ _ _ _ _ _
  have e9:=ae _ _ 11 _ _ _ N.out
  have g9:=aj _ _ 11 _ _ N.out
  have el:=fO N.out
  have cl:Hid (∀ i,(Value.slice ap (d.log.length+1) J).ownBlock=some i→x.log.ownBlock=some i∨w.heap.size≤i):=ab (fun i e=>(bP i e).imp id fun U=>by have:=bI.out;rw [U];simp;omega)
  have c9:Hid (w2.heap.size≤w3.heap.size):=ab (by have:=q.size;simp at this;omega)
  have bX:=ab (Y.ne N.out (by decide))
  have b0:Hid (TabAt w3 x.r d.S):=ab (ak.out.gr ((q.block _ (by simp;have:=ak.out.lt;omega) (fun e=>cB.out e.symm)).trans ((heap_alloc_old _ _ (by simp;have:=ak.out.lt;omega)).trans (heap_alloc_old _ _ ak.out.lt))))
  have co:=ab (Y.qk b0.out)
  have da:=ab X
  have cp:=ab Y
  have dc:Hid (Ext (fun i=>x.log.ownBlock=some i) w2 w3):=ab ⟨q.os,q.tape,q.output,c9.out,fun i hi O=>(q.block i (by simp;omega) (fun e=>O e.symm)).trans ((heap_alloc_old _ _ (by simp;omega)).trans (heap_alloc_old _ _ hi))⟩
  clear X q Y bP
  go_wp2
  obtain ⟨u,Q⟩:∃ u,u=w3.setCell ⟨h,11,none⟩ (.slice ap (d.log.length+1) J):=⟨_,rfl⟩
  rw [←Q]
  have y:∀ j,j≠h→u.heap[j]?=w3.heap[j]?:=fun j hj=>by rw [Q];exact Below.heap_setCell _ ⟨h,11,none⟩ _ j hj
  have cr:Hid (u.heap.size=w3.heap.size):=ab (by rw [Q,size_setCell])
  have bo:Hid (HostIs u h {x.stop with log := .slice ap (d.log.length+1) J}):=ab (by rw [Q];exact heap_setCell _ _ 11 _ N.out)
  have b1:=ab ((y _ (by omega:w.heap.size≠h)).trans bS.out)
  have br:=ab ((y _ (by omega:w.heap.size+1≠h)).trans bn.out)
  have dk:Hid (TabAt u x.r d.S):=ab (b0.out.gr (y _ (dx bc.out)))
  have dl:=ab (da.out.frame (w':=u) (by have:=cr.out;omega) fun b e _=>y b fun U=>bX.out (by rw [e,U]))
  have cs:=ab (cp.out.frame (w':=u) fun b e _=>y b fun U=>bX.out (by rw [e,U]))
  have dn:Hid (Ext (fun i=>i=h∨i=x.r∨x.log.ownBlock=some i) w u):=ab (by rw [Q];exact (bL.out.trans (dc.out.mono fun i e => .inr (.inr e))).setCell _ _ (.inl (.inl rfl)))
  clear Q y rc G I en f9 e9 g9
  unfold HostIs HV.cells at *
  have q0:=ae _ _ 0 _ _ _ b1.out
  have G:=ae _ _ 0 _ _ _ br.out
  have I:=ae _ _ 1 _ _ _ br.out
  have er:=ae _ _ 10 _ _ _ bo.out
  simp only [bQ,bB,aY] at q0 G I er
  have em:u.cell? ⟨h,10,none⟩=some (.map (some x.r)):=er
  clear er
  obtain ⟨W1,hu,b2,b3,dp⟩:=TabAt.drop (w:=u) dk.out (mt:=123) Tryz.underlying123 (t,m) 103 0
  have b4:=hu 1
  have bs:∀ w:World,w.drewN 1=w.drew:=fun _=>rfl
  rw [bs,bs] at b4
  simp only [kV,jh] at b4
  have ds:=ab b2
  have M:=ab b3
  have dv:=fO bo.out
  have ea:=fO b1.out
  have eb:=fO br.out
  clear hu bs b2 b3 dp hcv c7 c8 b8 ca cb ce ci
  go_region
  go_wp2
  go_end0
  have e:d.drop (t,m) = {d.stop with S:=ot (t,m) d.S,log:=d.log++[oR (t,m)]} := by unfold DpS.drop;rw [←B.out.1,hdd];rfl
  refine ⟨rfl,.slice ap (d.log.length+1) J,?_,?_,cl.out⟩
  ·rw [e]
   have O:∀ b,(Value.slice ap (d.log.length+1) J).ownBlock=some b→b≠x.r:=fun b e1 e2=>co.out (by rw [←e2];exact e1)
   have Z:∀ j,j≠x.r→j<u.heap.size→W1.heap[j]?=u.heap[j]?:=fun j hj ba=>M.out.block j ba (fun e=>hj (by cases e;rfl))
   refine ⟨?_,rfl,rfl,bD.out,ds.out.gr rfl,?_,?_,bz.out,bl.out⟩
   ·show W1.heap[h]?=_
    rw [Z h bc.out dv]
    have:=bo.out
    simp only [B.out.1,B.out.2] at this⊢
    exact this
   ·have h1:=dl.out.frame (w':=W1) M.out.size fun b e C=>Z b (O b e) C
    rw [nB] at h1
    show OwnS W1 base 1 _ (d.log++[oR (t,m)]).length (strsV (d.log++[oR (t,m)]))
    rw [nB,aq]
    exact h1
   ·exact cs.out.frame (w':=W1) fun b e C=>Z b (O b e) C
  ·refine (dn.out.trans' (T:=fun i=>i=x.r) (c:=W1.drew) ⟨M.out.os,M.out.tape,M.out.output,M.out.size,fun k hk O=>M.out.block k hk fun e=>O (by cases e;rfl)⟩ fun i e => .inl (.inr (.inl e)))
end Go.Proofs.YtkkfmkhbdoeglabGreatDoor
