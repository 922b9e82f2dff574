/- A part of what is proved here: lemmas and contracts of single functions. No condition but those that each names. -/
import Derived.Test.YtkkfmkhbdoeglaaGreatDoorG00
import Derived.Maps.OwnIn
import Derived.Test.YtkkfmkhbdoeglaaGreatDoorG02
import Derived.Test.YtkkfmkhbdoeglaaGreatDoorG03
import Derived.Test.YtkkfmkhbdoeglaaGreatDoorG04
namespace Go.Proofs.YtkkfmkhbdoeglaaGreatDoor
open Go.RowKit
def Cu.op (cu:Cu) (b:List K):Cu×OpB :=
 match (cu.take 2).2 with
 | [x,y] =>
  let C:=((cu.take 2).1.jr (x.toNat==1 || x.toNat==2) 6).jr (decide (y.toNat<3)) 6
  match C.f with
  | some _=>(C,⟨x.toNat,y.toNat,[],[]⟩)
  | none=>C.lZ x.toNat y.toNat b (fN y.toNat) (fZ y.toNat)
 | _=>(cu,⟨0,0,[],[]⟩)
theorem Ip (base c r:Nat) (cu:Cu) (b:List K) (w:World) (h:CurAt w base c cu) (hm:gM w r b) (q:ShapesVar w) (d:2≤base) (o:base≤w.heap.size) (j:c<r) :
  Calls Tryz.prog 144 #[.pointer (some ⟨c,0,none⟩),.map (some r)] w fun e w'=>e = .returned (yV (cu.op b).2)∧CurAt w' base c (cu.op b).1∧((cu.op b).1.f=none→gM w' r (b++[((cu.op b).2.table,(cu.op b).2.key)]))∧Ext (fun i=>i=c∨i=r) w w':=by
 obtain ⟨x,y,l⟩:=uI (Cu.take_length cu 2)
 unfold Cu.op
 rw [l]
 simp only
 cases B:((((cu.take 2).1.jr (x.toNat==1 || x.toNat==2) 6).jr (decide (y.toNat<3)) 6)).f with
 | some z =>
  simp only
  refine (Iq base c r cu x y _ _ w h o l ?_ ?_ (by rw [B];simp)).mono fun e w' ⟨h1,h2,h3⟩=>⟨h1,h2,fun k=>absurd (B.symm.trans k) (by simp),⟨h3.os,h3.tape,h3.output,h3.size,fun k hk hs=>h3.block k hk (fun e=>hs (.inl (by cases e;rfl)))⟩⟩
  ·by_cases h1:x.toNat<1
   ·exact .inl ⟨h1,by rw [eP,aD,aD];omega⟩
   ·by_cases h2:x.toNat<2
    ·exact .inr (.inl ⟨by omega,h2,by rw [dJ,bj,bj];omega⟩)
    ·by_cases h3:x.toNat<3
     ·exact .inr (.inr (.inl ⟨by omega,h3,by rw [dJ,bj,bj];omega⟩))
     ·exact .inr (.inr (.inr ⟨by omega,by rw [eP,aD,aD];omega⟩))
  ·by_cases h1:y.toNat<3
   ·exact .inl ⟨h1,bZ h1⟩
   ·exact .inr ⟨by omega,bm h1⟩
 | none =>
  simp only
  have C:=Cu.rJ B
  have m:=Cu.rJ C.1
  rw [m.2,C.2,Cu.nm,Cu.nm]
  have s:y.toNat<3:=dV C.2
  have u:x.toNat=1∨x.toNat=2:=by simpa using m.2
  have D:y.toNat=0∨y.toNat=1∨y.toNat=2:=by omega
  rcases u with u | u <;> rcases D with s | s | s <;> rw [u,s]
  ·exact Im 0 6 4 (.inl ⟨rfl,rfl,rfl⟩) base c r cu x y b w h hm q d o j l (by omega) (by omega) m.1
  ·exact Im 1 5 4 (.inr (.inl ⟨rfl,rfl,rfl⟩)) base c r cu x y b w h hm q d o j l (by omega) (by omega) m.1
  ·exact Im 2 2 2 (.inr (.inr ⟨rfl,rfl,rfl⟩)) base c r cu x y b w h hm q d o j l (by omega) (by omega) m.1
  ·exact Io 0 6 4 (.inl ⟨rfl,rfl,rfl⟩) base c r cu x y b w h hm q d o j l (by omega) (by omega) m.1
  ·exact Io 1 5 4 (.inr (.inl ⟨rfl,rfl,rfl⟩)) base c r cu x y b w h hm q d o j l (by omega) (by omega) m.1
  ·exact Io 2 2 2 (.inr (.inr ⟨rfl,rfl,rfl⟩)) base c r cu x y b w h hm q d o j l (by omega) (by omega) m.1
end Go.Proofs.YtkkfmkhbdoeglaaGreatDoor
namespace Go.Proofs.YtkkfmkhbdoeglaaGreatDoor
open Go.RowKit
def iH:Nat→Cu→List K→List OpB→Cu×List OpB
 | 0,c,_,os=>(c,os)
 | n+1,c,b,os =>
  match c.f with
  | some _=>(c,os)
  | none=>iH n (c.op b).1 (b++[((c.op b).2.table,(c.op b).2.key)]) (os++[(c.op b).2])
def pO (l:List UInt8):(Nat×List OpB)⊕(Nat×Nat) :=
 let a:=Cu.take ⟨l,0,0,none⟩ 8
 let b:=(a.1.jr (isVersionB (iL a.2)) 4).take 1
 let n:=(b.2.headD 0).toNat
 let L:=iH n (b.1.jr (decide (1≤n)&&decide (n≤8)) 5) [] []
 match L.1.ended.f with
 | some f => .inr f
 | none => .inl (iL a.2,L.2)
end Go.Proofs.YtkkfmkhbdoeglaaGreatDoor
namespace Go.Proofs.YtkkfmkhbdoeglaaGreatDoor
open Go.RowKit
def od (o:OpB):Bool:=if o.kind=2 then o.val==[] else gG o.table o.val
def ij (o:OpB) (ahead:List K):Nat :=
 if o.kind<1∨2<o.kind∨o.table<0∨2<o.table then 6
 else if iw o.table o.key=false then 7
 else if ahead.contains (o.table,o.key)=true then 8
 else if od o=false then 9
 else 0
def fV:Nat→List K→List OpB→Option (Nat×Nat)
 | _,_,[]=>none
 | i,b,o::os=>if ij o b=0 then fV (i+1) (b++[(o.table,o.key)]) os else some (ij o b,i)
def gB (v:Nat) (os:List OpB):Option (Nat×Nat) :=
 if isVersionB v=false then some (4,0)
 else if os.length<1∨8<os.length then some (5,0)
 else fV 0 [] os
def gN (o:OpB):List UInt8:=UInt8.ofNat o.kind.toNat::UInt8.ofNat o.table.toNat::(o.key++o.val)
def jo (v:Nat) (os:List OpB):List UInt8:=j4 v++UInt8.ofNat os.length::os.flatMap gN
def kJ (s:List UInt8) (at':Nat) (b:List K):(OpB×Nat)⊕(Nat×Nat) :=
 match s.drop at' with
 | x::y::r =>
  if x.toNat<1∨2<x.toNat∨2<y.toNat then .inr (6,at')
  else if r.length<fN y.toNat then .inr (1,at'+2)
  else if iw y.toNat (r.take (fN y.toNat))=false then .inr (7,at'+2)
  else if b.contains ((y.toNat:Int),r.take (fN y.toNat))=true then .inr (8,at'+2)
  else if x.toNat=2 then .inl (⟨2,y.toNat,r.take (fN y.toNat),[]⟩,at'+2+fN y.toNat)
  else if r.length<fN y.toNat+fZ y.toNat then .inr (1,at'+2+fN y.toNat)
  else if gG y.toNat ((r.drop (fN y.toNat)).take (fZ y.toNat))=false then .inr (9,at'+2+fN y.toNat)
  else .inl (⟨1,y.toNat,r.take (fN y.toNat),(r.drop (fN y.toNat)).take (fZ y.toNat)⟩,at'+2+fN y.toNat+fZ y.toNat)
 | _ => .inr (1,at')
def iV (s:List UInt8):Nat→Nat→List K→List OpB→(Nat×List OpB)⊕(Nat×Nat)
 | 0,at',_,os => .inl (at',os)
 | n+1,at',b,os =>
  match kJ s at' b with
  | .inr f => .inr f
  | .inl (o,to)=>iV s n to (b++[(o.table,o.key)]) (os++[o])
def l5 (s:List UInt8):(Nat×List OpB)⊕(Nat×Nat) :=
 if s.length<8 then .inr (1,0)
 else if isVersionB (iL (s.take 8))=false then .inr (4,0)
 else if s.length<9 then .inr (1,8)
 else if ((s.drop 8).headD 0).toNat<1∨8<((s.drop 8).headD 0).toNat then .inr (5,8)
 else match iV s ((s.drop 8).headD 0).toNat 9 [] [] with
  | .inr f => .inr f
  | .inl (at',os)=>if at'<s.length then .inr (2,at') else .inl (iL (s.take 8),os)
theorem Cu.ik (l:List UInt8) (a to n:Nat):(⟨l,a,to,none⟩:Cu).take n=if l.length<to+n then (⟨l,a,to,some (1,to)⟩,List.replicate n 0) else (⟨l,to,to+n,none⟩,(l.drop to).take n):=rfl
theorem Cu.jI (l:List UInt8) (a to n:Nat) (f:Nat×Nat):(⟨l,a,to,some f⟩:Cu).take n=(⟨l,a,to,some f⟩,List.replicate n 0):=rfl
theorem Cu.iY (l:List UInt8) (a to k:Nat) (ok:Bool):(⟨l,a,to,none⟩:Cu).jr ok k=if ok=true then ⟨l,a,to,none⟩ else ⟨l,a,to,some (k,a)⟩:=rfl
theorem Cu.iN (l:List UInt8) (a to k:Nat) (ok:Bool) (f:Nat×Nat):(⟨l,a,to,some f⟩:Cu).jr ok k=⟨l,a,to,some f⟩:=rfl
theorem drop2 {l:List UInt8} {to:Nat} {x y:UInt8} {r:List UInt8} (h:l.drop to=x::y::r):l.drop (to+2)=r∧l.length=to+2+r.length:=by
 have h1:(l.drop to).drop 2=r:=by rw [h];rfl
 rw [cO] at h1
 have h2:=bB List.length h
 rw [a8,au,au] at h2
 exact ⟨h1,by omega⟩
theorem Cu.Eg (l:List UInt8) (a to:Nat) (m:List K) :
  match kJ l to m with
  | .inr f=>((⟨l,a,to,none⟩:Cu).op m).1.f=some f
  | .inl (o,s)=>∃ D,(⟨l,a,to,none⟩:Cu).op m=(⟨l,D,s,none⟩,o)∧s≤l.length:=by
 unfold kJ
 match h:l.drop to with
 | [] =>
  have:l.length<to+2:=by have:=bB List.length h;simp at this;omega
  simp [Cu.op,Cu.ik,this,List.replicate,Cu.iN]
 | [x] =>
  have:l.length<to+2:=by have:=bB List.length h;simp at this;omega
  simp [Cu.op,Cu.ik,this,List.replicate,Cu.iN]
 | x::y::r =>
  obtain ⟨hd,hl⟩:=drop2 h
  have E:¬l.length<to+2:=by omega
  have b:((x.toNat==1 || x.toNat==2)=true∧y.toNat<3)↔¬(x.toNat<1∨2<x.toNat∨2<y.toNat):=by
   simp only [dJ,bj];omega
  simp only [Cu.op,Cu.ik,E,df,h,bA,ch]
  by_cases q:x.toNat<1∨2<x.toNat∨2<y.toNat
  ·rw [aF q]
   have:=mt b.1 (fun e=>e q)
   by_cases h1:(x.toNat==1 || x.toNat==2)=true
   ·have h2:¬y.toNat<3:=fun e=>this ⟨h1,e⟩
    simp [Cu.iY,h1,h2]
   ·simp [Cu.iY,h1,Cu.iN]
  ·rw [aw q]
   obtain ⟨h1,h2⟩:=b.2 q
   simp only [Cu.iY,h1,h2,decide_true,dL,Cu.lZ,Cu.ik,hl]
   by_cases hs:r.length<fN y.toNat
   ·have d:to+2+r.length<to+2+fN y.toNat:=by omega
    simp only [hs,d,dL,Cu.iN,Cu.jI]
    split <;> rfl
   ·have d:¬to+2+r.length<to+2+fN y.toNat:=by omega
    simp only [hs,d,df,hd,Cu.iY]
    cases hk:iw (y.toNat:Int) (r.take (fN y.toNat)) with
    | false =>
     simp only [dL,ek,df,Cu.iN,Cu.jI]
     split <;> rfl
    | true =>
     simp only [dO,df,dL,Cu.iY]
     cases hc:m.contains ((y.toNat:Int),r.take (fN y.toNat)) with
     | true =>
      simp only [dL,Bool.not_true,ek,df,Cu.iN,Cu.jI]
      split <;> rfl
     | false =>
      simp only [Bool.not_false,ek,df,dL]
      by_cases i:x.toNat=2
      ·have:¬(x.toNat:Int)=1:=by omega
       rw [aF i,aw this]
       exact ⟨_,by rw [i];rfl,by omega⟩
      ·have u:(x.toNat:Int)=1:=by omega
       rw [aw i,aF u]
       simp only [Cu.ik,hl]
       by_cases B:r.length<fN y.toNat+fZ y.toNat
       ·have j:to+2+r.length<to+2+fN y.toNat+fZ y.toNat:=by omega
        simp only [B,j,dL,Cu.iN]
       ·have j:¬to+2+r.length<to+2+fN y.toNat+fZ y.toNat:=by omega
        have C:l.drop (to+2+fN y.toNat)=r.drop (fN y.toNat):=by rw [←hd,cO]
        simp only [B,j,df,C,Cu.iY]
        cases F:gG (y.toNat:Int) ((r.drop (fN y.toNat)).take (fZ y.toNat)) with
        | false=>simp only [dL,ek,df]
        | true =>
         simp only [dO,df,dL]
         exact ⟨_,by rw [u],by omega⟩
theorem rW (n:Nat) (c:Cu) (b:List K) (os:List OpB) (f:Nat×Nat) (h:c.f=some f):(iH n c b os).1=c:=by
 cases n with
 | zero=>rfl
 | succ n=>unfold iH;rw [h]
theorem pB (l:List UInt8):∀ (n a to:Nat) (b:List K) (os:List OpB),to≤l.length→
  match iV l n to b os with
  | .inr f=>(iH n ⟨l,a,to,none⟩ b os).1.f=some f
  | .inl (d,m)=>∃ j,iH n ⟨l,a,to,none⟩ b os=(⟨l,j,d,none⟩,m)∧d≤l.length
 | 0,a,to,b,os,h=>⟨a,rfl,h⟩
 | n+1,a,to,b,os,h=>by
  have hc:=Cu.Eg l a to b
  unfold iV
  cases i:kJ l to b with
  | inr f =>
   rw [i] at hc
   simp only at hc⊢
   unfold iH
   simp only
   rw [rW n _ _ _ f hc]
   exact hc
  | inl x =>
   obtain ⟨o,d⟩:=x
   rw [i] at hc
   obtain ⟨j,he,hle⟩:=hc
   simp only
   have ih:=pB l n j d (b++[(o.table,o.key)]) (os++[o]) hle
   unfold iH
   simp only [he]
   exact ih
theorem oB (l:List UInt8):pO l=l5 l:=by
 unfold pO l5
 by_cases h8:l.length<8
 ·have b:l.length<0+8:=by omega
  simp [Cu.ik,h8,Cu.iN,Cu.jI,List.replicate,iH,Cu.ended]
 ·have b:¬l.length<0+8:=by omega
  simp only [Cu.ik,h8,df,cA,bF,Cu.iY]
  cases o:isVersionB (iL (l.take 8)) with
  | false=>simp [Cu.jI,Cu.iN,List.replicate,iH,Cu.ended]
  | true =>
   simp only [dL,dO,df,Cu.ik]
   by_cases h9:l.length<9
   ·have d:l.length<8+1:=h9
    simp [h9,Cu.iN,List.replicate,iH,Cu.ended]
   ·have d:¬l.length<8+1:=h9
    have i:((l.drop 8).take 1).headD 0=(l.drop 8).headD 0:=by
     cases l.drop 8 <;> rfl
    simp only [h9,df,i,Cu.iY]
    generalize ((l.drop 8).headD 0).toNat=n
    by_cases j:n<1∨8<n
    ·have:¬((decide (1≤n)&&decide (n≤8))=true):=by simp;omega
     rw [aw this,aF j]
     cases n with
     | zero=>rfl
     | succ n=>rfl
    ·have:(decide (1≤n)&&decide (n≤8))=true:=by simp;omega
     rw [aF this,aw j]
     have hd:=pB l n 8 9 [] [] (by omega)
     cases hc:iV l n 9 [] [] with
     | inr f =>
      rw [hc] at hd
      simp only at hd⊢
      simp [Cu.ended,hd]
     | inl x =>
      obtain ⟨to,os⟩:=x
      rw [hc] at hd
      obtain ⟨q,he,hle⟩:=hd
      simp only [he,Cu.ended]
      by_cases m:to<l.length <;> simp [m]
theorem jg {t:Int} {k:List UInt8} (h:iw t k=true):k.length=fN t :=
 Decidable.byContradiction fun b=>by rw [vH b] at h;cases h
theorem iO {t:Int} {k:List UInt8} (b:0≤t) (h2:t<3) (h:gG t k=true):k.length=fZ t :=
 Decidable.byContradiction fun d=>by rw [sj b h2 d] at h;cases h
theorem nd {o:OpB} {b:List K} (h:ij o b=0) :
  (o.kind=1∨o.kind=2)∧0≤o.table∧o.table<3∧iw o.table o.key=true∧b.contains (o.table,o.key)=false∧od o=true:=by
 unfold ij at h
 split at h
 ·cases h
 ·split at h
  ·cases h
  ·split at h
   ·cases h
   ·split at h
    ·cases h
    ·rename_i h1 h2 h3 h4
     exact ⟨by omega,by omega,by omega,(by simpa using h2),Bool.not_eq_true _▸h3,(by simpa using h4)⟩
theorem lC {o:OpB} {b:List K} (h1:o.kind=1∨o.kind=2) (h2:0≤o.table) (h3:o.table<3) (h4:iw o.table o.key=true) (h5:b.contains (o.table,o.key)=false) (h6:od o=true):ij o b=0:=by
 unfold ij
 rw [aw (by omega),h4,aw (by decide),h5,aw (by decide),h6,aw (by decide)]
theorem tC {s:List UInt8} {at' to:Nat} {j:List K} {o:OpB} (h:kJ s at' j = .inl (o,to)) :
  ij o j=0∧s.drop at'=gN o++s.drop to∧to=at'+(gN o).length:=by
 unfold kJ at h
 split at h
 ·rename_i x y r hd
  obtain ⟨b,hl⟩:=drop2 hd
  split at h
  ·cases h
  ·rename_i C
   split at h
   ·cases h
   ·rename_i u
    split at h
    ·cases h
    ·rename_i hk
     split at h
     ·cases h
     ·rename_i hc
      have d:iw (y.toNat:Int) (r.take (fN y.toNat))=true:=by simpa using hk
      have i:j.contains ((y.toNat:Int),r.take (fN y.toNat))=false:=by simpa using hc
      have hlen:(r.take (fN y.toNat)).length=fN y.toNat:=by rw [aA];omega
      split at h
      ·rename_i h2
       cases h
       refine ⟨lC (.inr rfl) (by simp only;omega) (by simp only;omega) d i rfl,?_,by simp only [gN,au,ar,hlen,aJ];omega⟩
       rw [hd,←cO,b]
       have l:UInt8.ofNat (2:Int).toNat=x:=by rw [←eu];simp [h2]
       simp only [gN,l,UInt8.ofNat_toNat,dU,cN,aX,cy]
      ·rename_i h2
       split at h
       ·cases h
       ·rename_i B
        split at h
        ·cases h
        ·rename_i q
         cases h
         have m:gG (y.toNat:Int) ((r.drop (fN y.toNat)).take (fZ y.toNat))=true:=by simpa using q
         have h1:x.toNat=1:=by omega
         refine ⟨lC (.inl rfl) (by simp only;omega) (by simp only;omega) d i m,?_,by simp only [gN,au,ar,hlen,aA,a8];omega⟩
         rw [hd,←cO,←cO,b]
         have l:UInt8.ofNat (1:Int).toNat=x:=by rw [←eu];simp [h1]
         simp only [gN,l,UInt8.ofNat_toNat,dU,aX,bg,cy]
 ·cases h
theorem nA {o:OpB} : (gN o).length=2+o.key.length+o.val.length:=by
 simp [gN];omega
theorem BA {s t:List UInt8} {at':Nat} {i:List K} {o:OpB} (h:ij o i=0) (hs:s.drop at'=gN o++t) :
  kJ s at' i = .inl (o,at'+(gN o).length):=by
 obtain ⟨h1,h2,h3,h4,h5,h6⟩:=nd h
 obtain ⟨j,T,k,v⟩:=o
 simp only at h1 h2 h3 h4 h5 h6
 have b:=jg h4
 obtain ⟨y,l⟩:∃ y:UInt8,(y.toNat:Int)=T:=⟨UInt8.ofNat T.toNat,by simp;omega⟩
 have m:UInt8.ofNat T.toNat=y:=by rw [←l];simp
 rw [nA]
 unfold kJ
 simp only [gN,aX,bg] at hs
 rw [hs,m]
 simp only
 have q:(k++(v++t)).take (fN T)=k:=by rw [←b,ep]
 have r:(k++(v++t)).drop (fN T)=v++t:=by rw [←b,eB]
 rw [l,q,r]
 have x:(UInt8.ofNat j.toNat).toNat=j.toNat:=by simp;omega
 rw [x,aw (by omega),aw (by simp [b]),h4,aw (by decide),h5,aw (by decide)]
 rcases h1 with rfl | rfl
 ·rw [aw (by decide)]
  have h6:gG T v=true:=h6
  have d:=iO h2 h3 h6
  have u:(v++t).take (fZ T)=v:=by rw [←d,ep]
  rw [u,aw (by simp [b,d]),h6,aw (by decide)]
  rw [b,d]
  congr 2
  omega
 ·have h6:v=[]:=by simpa [od] using h6
  subst h6
  rw [aF (by rfl)]
  simp [b]
  omega
theorem rV {s:List UInt8} : ∀ {n at':Nat} {d:List K} {os:List OpB} {to:Nat} {b:List OpB},iV s n at' d os = .inl (to,b)→
  ∃ us,b=os++us∧us.length=n∧(∀ i,fV i d us=none)∧s.drop at'=us.flatMap gN++s.drop to∧to=at'+(us.flatMap gN).length
 | 0,at',d,os,to,b,h=>by
  cases h
  exact ⟨[],by simp,rfl,fun _=>rfl,rfl,rfl⟩
 | n+1,at',d,os,to,b,h=>by
  unfold iV at h
  cases hc:kJ s at' d with
  | inr f=>rw [hc] at h;cases h
  | inl x =>
   obtain ⟨o,m⟩:=x
   rw [hc] at h
   simp only at h
   obtain ⟨h1,h2,h3⟩:=tC hc
   obtain ⟨us,j,l,q,r,u⟩:=rV h
   refine ⟨o::us,by rw [j];simp,by simp [l],fun i => ?_,?_,?_⟩
   ·unfold fV
    rw [aF h1]
    exact q (i+1)
   ·rw [h2,r,cQ,bg]
   ·rw [u,h3,cQ,ar];omega
theorem tE {s:List UInt8} : ∀ {us:List OpB} {at' i:Nat} {b:List K} {os:List OpB} {t:List UInt8},fV i b us=none→s.drop at'=us.flatMap gN++t→
  iV s us.length at' b os = .inl (at'+(us.flatMap gN).length,os++us)
 | [],at',i,b,os,t,h,hs=>by simp [iV]
 | o::us,at',i,b,os,t,h,hs=>by
  unfold fV at h
  split at h
  ·rename_i d
   rw [cQ,bg] at hs
   have hc:=BA d hs
   have hd:s.drop (at'+(gN o).length)=us.flatMap gN++t:=by rw [←cO,hs,eB]
   have ih:=tE (os:=os++[o]) h hd
   rw [au]
   unfold iV
   rw [hc]
   simp only [ih,cQ,ar,bg,aX,aQ]
   congr 2
   omega
  ·cases h
theorem GV {k:List UInt8} (h:k.length=8):∃ a b c d e f g i,k=[a,b,c,d,e,f,g,i]:=by
 match k,h with
 | [a,b,c,d,e,f,g,i],_=>exact ⟨a,b,c,d,e,f,g,i,rfl⟩
theorem sw (v:Nat) (h:v<18446744073709551616):iL (j4 v)=v:=by
 simp [iL,j4,List.range,List.range.loop]
 omega
theorem zG (l:List UInt8) (h:l.length=8):j4 (iL l)=l:=by
 obtain ⟨a,b,c,d,e,f,g,i,rfl⟩:=GV h
 have ha:=a.toNat_lt
 have j:=b.toNat_lt
 have hc:=c.toNat_lt
 have hd:=d.toNat_lt
 have he:=e.toNat_lt
 have m:=f.toNat_lt
 have o:=g.toNat_lt
 have q:=i.toNat_lt
 simp only [iL,j4,List.range,List.range.loop,bq,du,eI,List.foldl_nil,fm,and_true,←eu,dz]
 refine ⟨?_,?_,?_,?_,?_,?_,?_,?_⟩ <;> simp <;> omega
theorem j6 {v:Nat} (h:isVersionB v=true):v<18446744073709551616:=by
 unfold isVersionB at h;simp at h;omega
theorem GA (v:Nat) (os:List OpB) (h:gB v os=none):l5 (jo v os) = .inl (v,os):=by
 unfold gB at h
 split at h
 ·cases h
 ·rename_i i
  split at h
  ·cases h
  ·rename_i m
   have b:isVersionB v=true:=by simpa using i
   have hl:(jo v os).length=9+(os.flatMap gN).length:=by unfold jo;rw [ar,fY,au];omega
   have j:(jo v os).take 8=j4 v:=by unfold jo;rw [←fY v,ep]
   have hd:(jo v os).drop 8=UInt8.ofNat os.length::os.flatMap gN:=by unfold jo;rw [←fY v,eB]
   have d:(jo v os).drop 9=os.flatMap gN:=by rw [show 9=8+1 from rfl,←cO,hd];rfl
   have l:(UInt8.ofNat os.length).toNat=os.length:=by simp;omega
   unfold l5
   rw [aw (by omega),j,sw v (j6 b),aw (by simp [b]),aw (by omega),hd]
   simp only [fq,l]
   rw [aw (by omega),tE (t:=[]) h (by rw [d,cN])]
   simp only [aQ]
   rw [aw (by omega)]
theorem uE (s:List UInt8) (v:Nat) (os:List OpB) (h:l5 s = .inl (v,os)):gB v os=none∧jo v os=s:=by
 unfold l5 at h
 split at h
 ·cases h
 ·split at h
  ·cases h
  ·split at h
   ·cases h
   ·split at h
    ·cases h
    ·rename_i h8 u h9 E
     split at h
     ·cases h
     ·rename_i at' C hc
      split at h
      ·cases h
      ·rename_i D
       cases h
       obtain ⟨us,i,j,y,l,F⟩:=rV hc
       rw [aQ] at i
       rw [i]
       have m:(s.take 8).length=8:=by rw [aA];omega
       have b:s.drop at'=[]:=fD (by omega)
       refine ⟨?_,?_⟩
       ·unfold gB
        rw [aw u,aw (by omega)]
        exact y 0
       ·unfold jo
        rw [zG _ m]
        obtain ⟨x,r,d⟩:∃ x r,s.drop 8=x::r:=by
         cases B:s.drop 8 with
         | nil=>have:=bB List.length B;simp at this;omega
         | cons x r=>exact ⟨x,r,rfl⟩
        have o:s.drop 9=r:=by rw [show 9=8+1 from rfl,←cO,d];rfl
        rw [o,b,cN] at l
        rw [d] at j
        rw [←l]
        have q:UInt8.ofNat us.length=x:=by rw [j];simp
        rw [q,←d,cy]
theorem Bz {s:List UInt8} {at':Nat} {b:List K} {f:Nat×Nat} (h:kJ s at' b = .inr f) (hle:at'≤s.length):1≤f.1∧f.1≤14∧f.2≤s.length:=by
 unfold kJ at h
 split at h
 ·rename_i x y r hd
  obtain ⟨d,hl⟩:=drop2 hd
  repeat' (split at h)
  all_goals first | (cases h;simp only;omega) | cases h
 ·cases h;simp only;omega
theorem tD {s:List UInt8} : ∀ {n at':Nat} {b:List K} {os:List OpB} {f:Nat×Nat},iV s n at' b os = .inr f→at'≤s.length→1≤f.1∧f.1≤14∧f.2≤s.length
 | 0,at',b,os,f,h,hle=>by cases h
 | n+1,at',b,os,f,h,hle=>by
  unfold iV at h
  cases hc:kJ s at' b with
  | inr g=>rw [hc] at h;cases h;exact Bz hc hle
  | inl x =>
   obtain ⟨o,m⟩:=x
   rw [hc] at h
   obtain ⟨h1,h2,h3⟩:=tC hc
   refine tD h ?_
   have:=bB List.length h2
   rw [ar,a8,a8] at this
   have d := @nA o
   omega
theorem CO {s:List UInt8} {f:Nat×Nat} (h:l5 s = .inr f):1≤f.1∧f.1≤14∧f.2≤s.length:=by
 unfold l5 at h
 split at h
 ·cases h;simp
 ·split at h
  ·cases h;simp
  ·split at h
   ·cases h;simp only;omega
   ·split at h
    ·cases h;simp only;omega
    ·split at h
     ·rename_i b hc
      cases h
      exact tD hc (by omega)
     ·split at h
      ·cases h;simp only;omega
      ·cases h
theorem yW (o:OpB) (b:List K) (h:ij o b≠0):1≤ij o b∧ij o b≤14:=by
 refine ⟨by omega,?_⟩
 unfold ij
 repeat' split
 all_goals omega
theorem qz:∀ (os:List OpB) (i:Nat) (b:List K) {f:Nat×Nat},fV i b os=some f→1≤f.1∧f.1≤14∧i≤f.2∧f.2<i+os.length
 | [],i,b,f,h=>by cases h
 | o::os,i,b,f,h=>by
  unfold fV at h
  split at h
  ·have:=qz os (i+1) _ h
   rw [au]
   omega
  ·rename_i d
   cases h
   have:=yW o b d
   simp only [au]
   omega
theorem qy {v:Nat} {os:List OpB} {f:Nat×Nat} (h:gB v os=some f):1≤f.1∧f.1≤14∧f.2≤8:=by
 unfold gB at h
 split at h
 ·cases h;simp
 ·split at h
  ·cases h;simp
  ·have:=qz os 0 [] h
   omega
end Go.Proofs.YtkkfmkhbdoeglaaGreatDoor
namespace Go.Proofs.YtkkfmkhbdoeglaaGreatDoor
open Go.RowKit Go.ChangeMaps
abbrev Z:=K×Value×Nat
def ow (z:Z):MapEntry:=⟨kV z.1,z.2.1,z.2.2⟩
def Gn (z:Z):K×Value:=(z.1,z.2.1)
theorem Bi:∀ (es:List MapEntry) (l:List (K×Value)),es.map (fun e=>(e.key,e.val))=l.map (fun x=>(kV x.1,x.2))→∃ zs:List Z,es=zs.map ow∧l=zs.map Gn
 | [],[],_=>⟨[],rfl,rfl⟩
 | [],_::_,h=>by simp at h
 | _::_,[],h=>by simp at h
 | e::es,x::l,h=>by
  simp only [bq,fm,Prod.mk.injEq] at h
  obtain ⟨zs,rfl,rfl⟩:=Bi es l h.2
  refine ⟨(x.1,x.2,e.born)::zs,?_,rfl⟩
  rw [bq]
  congr 1
  unfold ow
  rw [←h.1.1,←h.1.2]
def gm (w:World) (r q:Nat) (l pre:List (K×Value)):Prop :=
 ∃ (zs b:List Z) (clock since c0:Nat),l=zs.map Gn∧pre=b.map Gn∧w.heap[r]?=some (.map (zs.map ow).toArray clock)∧w.heap[q]?=some (.mapIter (some r) since (b.map (·.2.2)).toArray c0)∧
  (∀ z∈zs,z.2.2<since)∧since≤c0∧since≤clock∧(zs.map (·.2.2)).Nodup∧(l.map (·.1)).Nodup∧(∀ y∈b,y∈zs)∧(b.map (·.2.2)).Nodup
theorem gm.map {w:World} {r q:Nat} {l pre:List (K×Value)} (h:gm w r q l pre):fS w r l:=by
 obtain ⟨zs,o,clock,since,c0,rfl,rfl,d,hq,hs,s,hc,i,hk,u,m⟩:=h
 refine ⟨_,clock,d,?_,?_,?_,hk⟩
 ·simp [ow,Gn]
 ·intro e he
  simp at he
  obtain ⟨a,b,x,n,j,rfl⟩:=he
  have:=hs _ j
  simp [ow]
  simp at this
  omega
 ·simpa [ow,Function.comp_def] using i
theorem gm.frame {w w':World} {r q:Nat} {l pre:List (K×Value)} (h:gm w r q l pre) (d:w'.heap[r]?=w.heap[r]?) (hq:w'.heap[q]?=w.heap[q]?):gm w' r q l pre:=by
 obtain ⟨zs,i,clock,since,c0,h1,h2,j,b,r⟩:=h
 exact ⟨zs,i,clock,since,c0,h1,h2,d.trans j,hq.trans b,r⟩
theorem gm.lt {w:World} {r q:Nat} {l pre:List (K×Value)} (h:gm w r q l pre):r<w.heap.size∧q<w.heap.size:=by
 obtain ⟨zs,i,clock,since,c0,h1,h2,d,b,_⟩:=h
 exact ⟨fI d,fI b⟩
theorem gm.sub {w:World} {r q:Nat} {l pre:List (K×Value)} (h:gm w r q l pre):(∀ x∈pre,x∈l)∧(l.map (·.1)).Nodup∧(pre.map (·.1)).Nodup:=by
 obtain ⟨zs,u,clock,since,c0,rfl,rfl,d,hq,hs,D,hc,C,hk,j,m⟩:=h
 refine ⟨fun x B => ?_,hk,?_⟩
 ·obtain ⟨y,h1,rfl⟩:=aB.1 B
  exact aB.2 ⟨y,j y h1,rfl⟩
 ·have key:∀ a∈zs,∀ b∈zs,a.1=b.1→a=b:=by
   clear hs j m d hq C
   intro a ha b d e
   induction zs with
   | nil=>cases ha
   | cons z zs ih =>
    simp only [bq,dw] at hk
    rcases aV.1 ha with rfl | s
    ·rcases aV.1 d with rfl | o
     ·rfl
     ·refine absurd (aB.2 ⟨Gn b,aB.2 ⟨b,o,rfl⟩,?_⟩) hk.1
      exact e.symm
    ·rcases aV.1 d with rfl | o
     ·refine absurd (aB.2 ⟨Gn a,aB.2 ⟨a,s,rfl⟩,?_⟩) hk.1
      exact e
     ·exact ih hk.2 s o
  have i:u.Nodup:=by
   have:=dE.1 m
   exact this.imp (fun h e=>h (by rw [e]))
  rw [List.map_map]
  refine dE.2 ?_
  clear m hs hk d hq C
  induction u with
  | nil=>exact List.Pairwise.nil
  | cons y u ih =>
   rw [dw] at i
   refine List.Pairwise.cons (fun b d e => ?_) (ih (fun x B=>j x (aT _ B)) i.2)
   have:=key y (j y (by simp)) b (j b (aT _ d)) e
   exact i.1 (this▸d)
theorem Fs (i d:List Nat) (j:i.Nodup) (o:d.Nodup) (hs:∀ y∈d,y∈i):(i.filter fun b => !d.contains b).length+d.length=i.length:=by
 have q:(d++i.filter fun b => !d.contains b).Perm i:=by
  refine (db ?_ j).2 fun a => ?_
  ·refine cj.2 ⟨o,j.sublist List.filter_sublist,fun a ha b l e => ?_⟩
   subst e
   simp at l
   exact l.2 ha
  ·simp
   constructor
   ·rintro (h | h)
    ·exact hs a h
    ·exact h.1
   ·intro h
    by_cases m:a∈d
    ·exact .inl m
    ·exact .inr ⟨h,m⟩
 have:=q.length_eq
 rw [ar] at this
 omega
theorem xL (zs b:List Z):(leftOf (zs.map ow).toArray (b.map (·.2.2)).toArray).toList=(zs.filter fun z => !(b.map (·.2.2)).contains z.2.2).map ow:=by
 unfold leftOf
 rw [Array.toList_filter,List.filter_map]
 congr 1
 refine List.filter_congr fun z _ => ?_
 simp only [Function.comp,ow,List.contains_toArray]
theorem z7 (zs:List Z) (p:Nat→Bool):((zs.filter fun z=>p z.2.2).map (·.2.2))=(zs.map (·.2.2)).filter p:=by
 rw [List.filter_map];rfl
theorem ng (w:World) (q:Nat) (o:Obj) {k:Nat} (h:k≠q):(setBlock w q o).heap[k]?=w.heap[k]?:=by
 simp [setBlock,dx h]
theorem gm.left {w:World} {r q:Nat} {l pre:List (K×Value)} (h:gm w r q l pre):w.rangeLeft r q+pre.length=l.length:=by
 obtain ⟨zs,d,clock,since,c0,rfl,rfl,i,hq,hs,u,hc,m,hk,o,j⟩:=h
 unfold World.rangeLeft
 rw [i,hq]
 simp only
 have e:=xL zs d
 have s:(leftOf (zs.map ow).toArray (d.map (·.2.2)).toArray).size=((zs.map (·.2.2)).filter fun b => !(d.map (·.2.2)).contains b).length:=by
  rw [←dh,e,aH,←z7,aH]
 rw [s]
 have:=Fs (zs.map (·.2.2)) (d.map (·.2.2)) m j (fun b i=>by
  obtain ⟨y,h1,rfl⟩:=aB.1 i
  exact aB.2 ⟨y,o y h1,rfl⟩)
 simp only [aH] at this⊢
 exact this
section
open Classical in
theorem gm.perm {w:World} {r q:Nat} {l pre:List (K×Value)} (h:gm w r q l pre) (hl:w.rangeLeft r q=0):pre.Perm l:=by
 have hlen:=h.left
 rw [hl,bF] at hlen
 obtain ⟨h1,h2,h3⟩:=h.sub
 have j:pre.Nodup:=(dE.1 h3).imp (fun h e=>h (by rw [e]))
 have i:l.Nodup:=(dE.1 h2).imp (fun h e=>h (by rw [e]))
 refine (db j i).2 fun a=>⟨h1 a,fun ha => ?_⟩
 refine et fun m => ?_
 have o:(a::pre).Nodup:=dw.2 ⟨m,j⟩
 have u:((a::pre)++l.filter fun b => !(a::pre).contains b).Perm l:=by
  refine (db ?_ i).2 fun b => ?_
  ·refine cj.2 ⟨o,i.sublist List.filter_sublist,fun x B y C e => ?_⟩
   subst e
   have d:=(cm.1 C).2
   rw [List.contains_iff_mem.2 B] at d
   cases d
  ·rw [bU,cm]
   constructor
   ·rintro (h | h)
    ·rcases aV.1 h with rfl | h
     ·exact ha
     ·exact h1 b h
    ·exact h.1
   ·intro h
    by_cases s:b∈a::pre
    ·exact .inl s
    ·exact .inr ⟨h,by
      cases hc:(a::pre).contains b with
      | true=>exact absurd (List.contains_iff_mem.1 hc) s
      | false=>rfl⟩
 have:=u.length_eq
 simp only [ar,au] at this
 omega
end
section
variable {w:World} {r q:Nat} {l pre:List (K×Value)} {mt e:TypeId}
theorem fS.range (h:fS w r l) (j:Tryz.prog.underlying mt=some (.map 94 e)) :
  ∃ w',(Instr.range mt (.map (some r))).run Tryz.prog w = .ok (.pointer (some ⟨w.heap.size,0,none⟩)) w'∧gm w' r w.heap.size l []∧Below w.heap.size w w'∧w'.heap.size=w.heap.size+1:=by
 obtain ⟨es,clock,b,hl,hc,d,hk⟩:=h
 obtain ⟨zs,h1,h2⟩:=Bi es.toList l hl
 have i:es=(zs.map ow).toArray:=by rw [←h1]
 have o:=fI b
 refine ⟨w.alloc (.mapIter (some r) clock #[] clock),?_,⟨zs,[],clock,clock,clock,h2,rfl,?_,fL w _,?_,ah _,ah _,?_,hk,(fun _ h=>by cases h),List.nodup_nil⟩,(Below.refl _ w).alloc (ah _) _,by simp⟩
 ·simp [Instr.range,aN j,aM b,Result.andThen,newObj,Sem.run]
 ·rw [←i]
  exact fQ w _ b
 ·intro z m
  exact hc (ow z) (by rw [h1];exact aB.2 ⟨z,m,rfl⟩)
 ·rw [h1,List.map_map] at d
  exact d
theorem gm.next (h:gm w r q l pre) (ty:TypeId) :
  (w.rangeLeft r q=0∧(Instr.next (.pointer (some ⟨q,0,none⟩)) false ty).run Tryz.prog w = .ok (.tuple #[.bool false]) w)∨
  ∃ (x:K×Value) (w':World),x∈l∧x.1∉pre.map (·.1)∧(Instr.next (.pointer (some ⟨q,0,none⟩)) false ty).run Tryz.prog w = .ok (.tuple #[.bool true,kV x.1,x.2]) w'∧gm w' r q l (pre++[x])∧w.grownBy w' (some q)∧w'.heap.size=w.heap.size∧
   (Instr.entry (.pointer (some ⟨q,0,none⟩))).run Tryz.prog w' = .ok (.tuple #[kV x.1,x.2]) w'∧r≠q:=by
 have V:=h
 obtain ⟨zs,d,clock,since,c0,rfl,rfl,j,hq,hs,Q,hc,I,hk,R,J⟩:=h
 have m:r≠q:=fun e=>by rw [e] at j;rw [j] at hq;cases hq
 have hold:∀ x∈((zs.map ow).toArray).toList,x.born<since:=by
  intro x S
  obtain ⟨z,D,rfl⟩:=aB.1 (show x∈zs.map ow from S)
  exact hs z D
 rcases run_next_at (P:=Tryz.prog) w ty q r since c0 (d.map (·.2.2)).toArray (zs.map ow).toArray clock hq j hold Q with ⟨h1,h2⟩ | ⟨e0,s,w1,i,E⟩
 ·left
  refine ⟨?_,h2⟩
  unfold World.rangeLeft
  rw [j,hq]
  exact h1
 ·right
  rw [xL] at s
  obtain ⟨z,D,rfl⟩:=aB.1 s
  obtain ⟨o,M⟩:=cm.1 D
  have F:z.2.2∉d.map (·.2.2):=by simpa using M
  have u:w1.heap[r]?=some (.map (zs.map ow).toArray clock):=by rcases i with rfl | rfl <;> exact j
  have B:w1.heap[q]?=some (.mapIter (some r) since (d.map (·.2.2)).toArray c0):=by rcases i with rfl | rfl <;> exact hq
  have N:gm (setBlock w1 q (.mapIter (some r) since ((d.map (·.2.2)).toArray.push z.2.2) clock)) r q (zs.map Gn) (d.map Gn++[Gn z]):=by
   refine ⟨zs,d++[z],clock,since,clock,rfl,by simp,?_,?_,hs,hc,hc,I,hk,?_,?_⟩
   ·rw [ng _ _ _ m];exact u
   ·rw [fX B];simp
   ·intro y O
    rcases bU.1 O with h | h
    ·exact R y h
    ·rw [az.1 h];exact o
   ·rw [bC]
    refine cj.2 ⟨J,by simp,fun a ha b C e => ?_⟩
    simp at C
    exact F (by rw [←C,←e];exact ha)
  have U:w.grownBy (setBlock w1 q (.mapIter (some r) since ((d.map (·.2.2)).toArray.push z.2.2) clock)) (some q):=by
   rcases i with rfl | rfl
   ·exact ⟨rfl,rfl,rfl,by simp [setBlock],fun k _ hk=>ng _ _ _ (fun e=>hk (by rw [e]))⟩
   ·exact ⟨rfl,rfl,rfl,by simp [setBlock],fun k _ hk=>ng w.drew _ _ (fun e=>hk (by rw [e]))⟩
  refine ⟨Gn z,_,aB.2 ⟨z,o,rfl⟩,?_,E,N,U,?_,?_,m⟩
  ·have:=N.sub.2.2
   rw [bC,cj] at this
   intro G
   exact this.2.2 _ G _ (by simp) rfl
  ·rcases i with rfl | rfl <;> simp [setBlock]
  ·refine run_entry_at _ q r since (d.map (·.2.2)).toArray (zs.map ow).toArray clock (ow z) (fX B) ?_ (show ow z∈zs.map ow from aB.2 ⟨z,o,rfl⟩) ?_
   ·rw [ng _ _ _ m];exact u
   ·simpa [ow,Function.comp_def] using I
variable {ops:Array Oper} {rest:List Oper} {o:Oper} {a:Act} {Q:Exit→Act→World→Prop}
theorem jY (i:o.guard=none) (m:Operand) (d:o.op=Op.range mt m) (j:Tryz.prog.underlying mt=some (.map 94 e)) (hm:a.eval m = .map (some r)) (h:fS w r l)
  (hK:∀ w',gm w' r w.heap.size l []→Below w.heap.size w w'→w'.heap.size=w.heap.size+1→wpList Tryz.prog ops Q rest (a.put o.dst (.pointer (some ⟨w.heap.size,0,none⟩))) w') :
  wpList Tryz.prog ops Q (o::rest) a w:=by
 refine fc i fun s hK' => ?_
 obtain ⟨w',b,r1,r2,q⟩:=h.range j
 unfold Oper.wp
 simp [execOp,d,hm,b,Result.andThen]
 exact hK' _ _ (hK w' r1 r2 q)
theorem kD (E:o.guard=none) (it:Operand) (s:o.op=Op.next it false) (u:a.eval it = .pointer (some ⟨q,0,none⟩)) (h:gm w r q l pre)
  (j:pre.Perm l→wpList Tryz.prog ops Q rest (a.put o.dst (.tuple #[.bool false])) w)
  (m:∀ (b:Int) (d:List UInt8) (v:Value) (w':World),((b,d),v)∈l→(b,d)∉pre.map (·.1)→gm w' r q l (pre++[((b,d),v)])→w.grownBy w' (some q)→w'.heap.size=w.heap.size→
   (Instr.entry (.pointer (some ⟨q,0,none⟩))).run Tryz.prog w' = .ok (.tuple #[.agg #[.int .i64 b,.string ⟨d.toArray⟩],v]) w'→r≠q→wpList Tryz.prog ops Q rest (a.put o.dst (.tuple #[.bool true,.agg #[.int .i64 b,.string ⟨d.toArray⟩],v])) w') :
  wpList Tryz.prog ops Q (o::rest) a w:=by
 refine fc E fun J hK' => ?_
 unfold Oper.wp
 rcases h.next o.type with ⟨F,i⟩ | ⟨⟨⟨b,d⟩,v⟩,w',G,x,i,I,y,B,C,D⟩
 ·simp [execOp,s,u,i,Result.andThen]
  exact hK' _ _ (j (h.perm F))
 ·simp [execOp,s,u,i,Result.andThen]
  exact hK' _ _ (m b d v w' G x I y B C D)
variable {F:Fence} {nF:Nat}
theorem oe (j:o.guard=none) (m:Operand) (b:o.op=Op.range mt m) (q:Tryz.prog.underlying mt=some (.map 94 e)) (hm:a.eval m = .map (some r)) (h:fS w r l)
  (hK:∀ w',gm w' r w.heap.size l []→Below w.heap.size w w'→w'.heap.size=w.heap.size+1→wpListIn F nF Tryz.prog ops Q rest (a.put o.dst (.pointer (some ⟨w.heap.size,0,none⟩))) w') :
  wpListIn F nF Tryz.prog ops Q (o::rest) a w:=by
 refine wpListIn_plain j fun u hK' => ?_
 obtain ⟨w',d,r1,r2,s⟩:=h.range q
 unfold Oper.wpIn
 refine ⟨by simp [Oper.about,b],?_⟩
 rw [Oper.semAt_plain F _ _ (by rw [b];intro c i;cases i)]
 simp [execOp,b,hm,d,Result.andThen]
 exact hK' _ _ (hK w' r1 r2 s)
theorem oN (G:o.guard=none) (it:Operand) (j:o.op=Op.next it false) (u:a.eval it = .pointer (some ⟨q,0,none⟩)) (h:gm w r q l pre)
  (m:pre.Perm l→wpListIn F nF Tryz.prog ops Q rest (a.put o.dst (.tuple #[.bool false])) w)
  (s:∀ (b:Int) (d:List UInt8) (v:Value) (w':World),((b,d),v)∈l→(b,d)∉pre.map (·.1)→gm w' r q l (pre++[((b,d),v)])→w.grownBy w' (some q)→w'.heap.size=w.heap.size→
   (Instr.entry (.pointer (some ⟨q,0,none⟩))).run Tryz.prog w' = .ok (.tuple #[.agg #[.int .i64 b,.string ⟨d.toArray⟩],v]) w'→r≠q→wpListIn F nF Tryz.prog ops Q rest (a.put o.dst (.tuple #[.bool true,.agg #[.int .i64 b,.string ⟨d.toArray⟩],v])) w') :
  wpListIn F nF Tryz.prog ops Q (o::rest) a w:=by
 refine wpListIn_plain G fun N hK' => ?_
 unfold Oper.wpIn
 refine ⟨by simp [Oper.about,j],?_⟩
 rw [Oper.semAt_plain F _ _ (by rw [j];intro c x;cases x)]
 rcases h.next o.type with ⟨I,i⟩ | ⟨⟨⟨b,d⟩,v⟩,w',J,y,i,M,B,C,D,E⟩
 ·simp [execOp,j,u,i,Result.andThen]
  exact hK' _ _ (m (h.perm I))
 ·simp [execOp,j,u,i,Result.andThen]
  exact hK' _ _ (s b d v w' J y M B C D E)
end
end Go.Proofs.YtkkfmkhbdoeglaaGreatDoor
namespace Go.Proofs.YtkkfmkhbdoeglaaGreatDoor
abbrev E:=K×List UInt8
def nJ (a b:K):Bool:=decide (a.1<b.1) || (decide (a.1=b.1)&&decide (a.2<b.2))
theorem na (a b:K):nJ a b=true↔a.1<b.1∨(a.1=b.1∧a.2<b.2):=by simp [nJ]
theorem rF (a:K):nJ a a=false:=by
 cases h:nJ a a with
 | false=>rfl
 | true =>
  rw [na] at h
  rcases h with h | ⟨-,h⟩
  ·omega
  ·exact absurd h (eQ _)
theorem nl {a b c:K} (h:nJ a b=true) (k:nJ b c=true):nJ a c=true:=by
 rw [na] at *
 rcases h with h | ⟨h1,h2⟩
 ·rcases k with k | ⟨i,d⟩
  ·exact .inl (by omega)
  ·exact .inl (by omega)
 ·rcases k with k | ⟨i,d⟩
  ·exact .inl (by omega)
  ·exact .inr ⟨by omega,List.lt_trans h2 d⟩
theorem kN {a b:K} (h:nJ a b=true):nJ b a=false:=by
 cases k:nJ b a with
 | false=>rfl
 | true=>rw [←rF a,nl h k]
theorem rG {a b:K} (h:nJ a b=true):a≠b:=fun e=>by rw [e,rF] at h;cases h
theorem uJ (a b:K):nJ a b=true∨a=b∨nJ b a=true:=by
 rw [na,na]
 rcases dS a.1 b.1 with h | h | h
 ·exact .inl (.inl h)
 ·by_cases h1:a.2<b.2
  ·exact .inl (.inr ⟨h,h1⟩)
  ·by_cases h2:b.2<a.2
   ·exact .inr (.inr (.inr ⟨h.symm,h2⟩))
   ·exact .inr (.inl (Prod.ext h (List.le_antisymm (List.not_lt.1 h2) (List.not_lt.1 h1))))
 ·exact .inr (.inr (.inl h))
def SortedE (S:List E):Prop:=S.Pairwise fun x y=>nJ x.1 y.1=true
theorem SortedE.nil:SortedE []:=List.Pairwise.nil
theorem SortedE.keys {S:List E} (h:SortedE S):(S.map (·.1)).Nodup:=dE.2 (h.imp fun h=>rG h)
theorem SortedE.nodup {S:List E} (h:SortedE S):S.Nodup:=List.Pairwise.imp (R:=fun x y:E=>nJ x.1 y.1=true) (fun {a b} h (e:a=b)=>rG h (by rw [e])) h
theorem SortedE.ext:∀ {S T:List E},SortedE S→SortedE T→(∀ x,x∈S↔x∈T)→S=T
 | [],[],_,_,_=>rfl
 | [],y::T,_,_,h=>by have:=(h y).2 (by simp);cases this
 | x::S,[],_,_,h=>by have:=(h x).1 (by simp);cases this
 | x::S,y::T,q,r,h=>by
  obtain ⟨d,l⟩:=fv.1 q
  obtain ⟨i,m⟩:=fv.1 r
  have o:x=y:=by
   rcases aV.1 ((h x).1 (by simp)) with e | s
   ·exact e
   ·rcases aV.1 ((h y).2 (by simp)) with e | u
    ·exact e.symm
    ·have:=kN (i x s)
     rw [d y u] at this
     cases this
  subst o
  congr 1
  refine SortedE.ext l m fun z=>⟨fun b => ?_,fun b => ?_⟩
  ·rcases aV.1 ((h z).1 (aT _ b)) with e | j
   ·exact absurd e.symm (fun e=>rG (d z b) (by rw [e]))
   ·exact j
  ·rcases aV.1 ((h z).2 (aT _ b)) with e | j
   ·exact absurd e.symm (fun e=>rG (i z b) (by rw [e]))
   ·exact j
def jJ (k:K) (v:List UInt8) (S:List E):List E:=S.filter (fun x=>nJ x.1 k)++(k,v)::S.filter (fun x=>nJ k x.1)
def nQ (k:K) (S:List E):List E:=S.filter fun x => !(x.1==k)
def jq (k:K) (S:List E):Option (List UInt8):=(S.find? fun x=>k==x.1).map (·.2)
theorem sorted_put (k:K) (v:List UInt8) {S:List E} (h:SortedE S):SortedE (jJ k v S):=by
 unfold jJ SortedE
 rw [dB]
 refine ⟨h.filter _,fv.2 ⟨fun y b=>(cm.1 b).2,h.filter _⟩,fun x d y b => ?_⟩
 have h1:=(cm.1 d).2
 rcases aV.1 b with rfl | b
 ·exact h1
 ·exact nl h1 (cm.1 b).2
theorem lI (k:K) {S:List E} (h:SortedE S):SortedE (nQ k S):=h.filter _
theorem jn (k:K) (v:List UInt8) (S:List E) (x:E):x∈jJ k v S↔x=(k,v)∨(x∈S∧x.1≠k):=by
 unfold jJ
 simp only [bU,cm,aV]
 constructor
 ·rintro (⟨h1,h2⟩ | h | ⟨h1,h2⟩)
  ·exact .inr ⟨h1,rG h2⟩
  ·exact .inl h
  ·exact .inr ⟨h1,(rG h2).symm⟩
 ·rintro (h | ⟨h1,h2⟩)
  ·exact .inr (.inl h)
  ·rcases uJ x.1 k with h | h | h
   ·exact .inl ⟨h1,h⟩
   ·exact absurd h h2
   ·exact .inr (.inr ⟨h1,h⟩)
theorem my (k:K) (S:List E) (x:E):x∈nQ k S↔x∈S∧x.1≠k:=by
 unfold nQ
 rw [cm]
 simp
theorem Fb {l:List E} {k:K} {x:E} (h:l.find? (fun x=>k==x.1)=some x):x∈l∧x.1=k:=by
 refine ⟨List.mem_of_find?_eq_some h,?_⟩
 have:=List.find?_some h
 exact (bj.1 this).symm
theorem nS {S:List E} (h:(S.map (·.1)).Nodup) (k:K) (v:List UInt8):jq k S=some v↔(k,v)∈S:=by
 unfold jq
 constructor
 ·intro b
  obtain ⟨x,d,rfl⟩:=cw.1 b
  obtain ⟨h1,h2⟩:=Fb d
  rw [←h2]
  exact h1
 ·intro hm
  induction S with
  | nil=>cases hm
  | cons y S ih =>
   rw [bq,dw] at h
   rw [dW]
   rcases aV.1 hm with rfl | hm
   ·simp
   ·have:(k==y.1)=false:=by
     rw [aD]
     exact fun e=>h.1 (e▸aB.2 ⟨_,hm,rfl⟩)
    rw [this]
    exact ih h.2 hm
theorem get_none {S:List E} (k:K):jq k S=none↔∀ x∈S,x.1≠k:=by
 unfold jq
 rw [Option.map_eq_none_iff,List.find?_eq_none]
 constructor
 ·intro h x b e
  exact h x b (by rw [bj,e])
 ·intro h x b e
  exact h x b (bj.1 e).symm
def Ef (S:List E) (o:OpB):List E:=if o.kind=1 then jJ (o.table,o.key) o.val S else nQ (o.table,o.key) S
def foldS (S:List E) (os:List OpB):List E:=os.foldl Ef S
theorem ya {S:List E} (o:OpB) (h:SortedE S):SortedE (Ef S o):=by
 unfold Ef
 split
 ·exact sorted_put _ _ h
 ·exact lI _ h
theorem nW:∀ {S:List E} (os:List OpB),SortedE S→SortedE (foldS S os)
 | _,[],h=>h
 | _,o::os,h=>nW os (ya o h)
theorem yF (S:List E) (os us:List OpB):foldS S (os++us)=foldS (foldS S os) us:=di
theorem BZ (S:List E) (os:List OpB) (k:Nat) (h:k<os.length):foldS S (os.take (k+1))=Ef (foldS S (os.take k)) os[k]:=by
 rw [aO h,yF]
 rfl
def countS (t:Int) (S:List E):Nat:=S.countP fun x=>decide (x.1.1=t)
def sizeS (S:List E):Nat:=(S.map fun x=>1+x.1.2.length+x.2.length).sum
end Go.Proofs.YtkkfmkhbdoeglaaGreatDoor
namespace Go.Proofs.YtkkfmkhbdoeglaaGreatDoor
open Go.RowKit Go.ChangeMaps
def kP (s:List UInt8):Value := .agg #[.string ⟨s.toArray⟩]
def zS (x:E):K×Value:=(x.1,kP x.2)
theorem Ga {a b:List UInt8} (h:kP a=kP b):a=b:=by
 unfold kP at h
 simp only [Value.agg.injEq,Array.mk.injEq,fm,Value.string.injEq,ByteArray.mk.injEq,and_true] at h
 exact h
theorem IB {x y:E} (h:zS x=zS y):x=y:=by
 unfold zS at h
 simp only [Prod.mk.injEq] at h
 exact Prod.ext h.1 (Ga h.2)
def TabAt (w:World) (r:Nat) (S:List E):Prop:=SortedE S∧∃ L,fS w r L∧L.Perm (S.map zS)
theorem TabAt.sorted {w:World} {r:Nat} {S:List E} (h:TabAt w r S):SortedE S:=h.1
theorem TabAt.lt {w:World} {r:Nat} {S:List E} (h:TabAt w r S):r<w.heap.size:=h.2.elim fun _ h=>h.1.lt
theorem TabAt.fW {w w':World} {r:Nat} {S:List E} (h:TabAt w r S) (b:w'.heap[r]?=w.heap[r]?):TabAt w' r S:=by
 obtain ⟨hs,L,hm,d⟩:=h
 exact ⟨hs,L,hm.fW b,d⟩
theorem TabAt.new (w:World):TabAt (w.alloc (.map #[] 0)) w.heap.size []:=⟨SortedE.nil,[],fS.new w,List.Perm.refl _⟩
theorem qH (S:List E):(S.map zS).map (·.1)=S.map (·.1):=by rw [List.map_map];rfl
theorem oV {k:K} {v:Value} : ∀ {L:List (K×Value)},(L.map (·.1)).Nodup→(nk k L=some v↔(k,v)∈L)
 | [],_=>by simp [nk]
 | y::L,h=>by
  rw [bq,dw] at h
  unfold nk
  rw [dW]
  cases hk:(k==y.1) with
  | true =>
   rw [bj] at hk
   subst hk
   simp only [dX,eN,aV]
   constructor
   ·rintro rfl;exact .inl rfl
   ·rintro (e | hm)
    ·rw [←e]
    ·exact absurd (aB.2 ⟨_,hm,rfl⟩) h.1
  | false =>
   rw [aD] at hk
   have := @oV k v L h.2
   unfold nk at this
   simp only [this,aV]
   constructor
   ·exact .inr
   ·rintro (e | hm)
    ·exact absurd (by rw [←e]) hk
    ·exact hm
theorem Da {S:List E} {L:List (K×Value)} (hs:SortedE S) (d:(L.map (·.1)).Nodup) (i:L.Perm (S.map zS)) (k:K):nk k L=(jq k S).map kP:=by
 cases b:jq k S with
 | some v =>
  rw [nS hs.keys] at b
  exact (oV d).2 (i.mem_iff.2 (aB.2 ⟨_,b,rfl⟩))
 | none =>
  rw [get_none] at b
  cases ha:nk k L with
  | none=>rfl
  | some v =>
   rw [oV d,i.mem_iff] at ha
   obtain ⟨x,j,e⟩:=aB.1 ha
   exact absurd (bB Prod.fst e) (b x j)
theorem qK {l:List K} (h:l.Nodup) {i j:Nat} (b:i<l.length) (d:j<l.length) (e:l[i]=l[j]):i=j :=
 (List.getElem?_inj b h).1 (by rw [ay b,ay d,e])
theorem qk (k:K) (v:Value) {L:List (K×Value)} (r:(L.map (·.1)).Nodup) (x:K×Value):x∈mD k v L↔x=(k,v)∨(x∈L∧x.1≠k):=by
 unfold mD
 cases m:gJ k L 0 with
 | none =>
  have ha:=iI k L 0 m
  simp only [bU,az]
  constructor
  ·rintro (h | h)
   ·exact .inr ⟨h,ha x h⟩
   ·exact .inl h
  ·rintro (h | h)
   ·exact .inr h
   ·exact .inl h.1
 | some y =>
  obtain ⟨j,u⟩:=y
  obtain ⟨-,o⟩:=jw k L 0 j u m
  rw [cL] at o
  obtain ⟨d,l⟩:=aG.1 o
  simp only
  constructor
  ·intro h
   obtain ⟨i,b,e⟩:=cH h
   rw [List.getElem_set] at e
   rw [b9] at b
   split at e
   ·exact .inl e.symm
   ·rename_i q
    refine .inr ⟨e▸cF b,fun hk=>q ?_⟩
    have h1:(L.map (·.1))[j]'(by simpa using d)=k:=by simp [l]
    have h2:(L.map (·.1))[i]'(by simpa using b)=k:=by simp [e,hk]
    exact qK r _ _ (h1.trans h2.symm)
  ·rintro (h | ⟨h1,h2⟩)
   ·rw [h]
    exact aZ (i:=j) (by rw [ea d])
   ·obtain ⟨i,b,rfl⟩:=cH h1
    refine aZ (i:=i) ?_
    rw [ew (fun e=>h2 (by subst e;rw [l])),ay b]
theorem DH (k:K) {L:List (K×Value)} (r:(L.map (·.1)).Nodup) (x:K×Value):x∈vA k L↔x∈L∧x.1≠k:=by
 unfold vA
 cases l:gJ k L 0 with
 | none =>
  have ha:=iI k L 0 l
  exact ⟨fun h=>⟨h,ha x h⟩,fun h=>h.1⟩
 | some y =>
  obtain ⟨j,u⟩:=y
  obtain ⟨-,m⟩:=jw k L 0 j u l
  rw [cL] at m
  obtain ⟨o,d⟩:=aG.1 m
  simp only
  rw [List.mem_eraseIdx_iff_getElem]
  constructor
  ·rintro ⟨i,b,q,e⟩
   refine ⟨e▸cF b,fun hk=>q ?_⟩
   have h1:(L.map (·.1))[j]'(by simpa using o)=k:=by simp [d]
   have h2:(L.map (·.1))[i]'(by simpa using b)=k:=by simp [e,hk]
   exact (qK r _ _ (h1.trans h2.symm)).symm
  ·rintro ⟨h1,h2⟩
   obtain ⟨i,b,rfl⟩:=cH h1
   exact ⟨i,b,fun e=>h2 (by subst e;rw [d]),rfl⟩
theorem rj {L:List (K×Value)} (h:(L.map (·.1)).Nodup):L.Nodup:=(dE.1 h).imp fun h e=>h (by rw [e])
section
open Classical in
theorem tZ {L M:List (K×Value)} (hl:(L.map (·.1)).Nodup) (hm:(M.map (·.1)).Nodup) (h:∀ x,x∈L↔x∈M):L.Perm M :=
 (db (rj hl) (rj hm)).2 h
end
theorem fS.keys {w:World} {r:Nat} {L:List (K×Value)} (h:fS w r L):(L.map (·.1)).Nodup:=by
 obtain ⟨_,_,_,_,_,_,hk⟩:=h
 exact hk
section
variable {w:World} {r:Nat} {S:List E} {mt e:TypeId}
theorem TabAt.put (h:TabAt w r S) (j:Tryz.prog.underlying mt=some (.map 94 e)) (k:K) (v:List UInt8) :
  ∃ b,(∀ n,(Instr.mapUpdate mt (.map (some r)) (kV k) (kP v)).run Tryz.prog (w.drewN n) = .ok () (b.drewN n))∧TabAt b r (jJ k v S)∧w.grownBy b (some r)∧b.heap.size=w.heap.size:=by
 obtain ⟨hs,L,hm,l⟩:=h
 obtain ⟨b,h1,h2,h3,h4⟩:=hm.update j k (kP v)
 refine ⟨b,h1,⟨sorted_put k v hs,_,h2,tZ h2.keys (by rw [qH];exact (sorted_put k v hs).keys) fun x => ?_⟩,h3,h4⟩
 rw [qk k _ hm.keys,l.mem_iff,aB,aB]
 constructor
 ·rintro (rfl | ⟨⟨y,d,rfl⟩,i⟩)
  ·exact ⟨(k,v),(jn k v S _).2 (.inl rfl),rfl⟩
  ·exact ⟨y,(jn k v S _).2 (.inr ⟨d,i⟩),rfl⟩
 ·rintro ⟨y,d,rfl⟩
  rcases (jn k v S _).1 d with rfl | ⟨h1,h2⟩
  ·exact .inl rfl
  ·exact .inr ⟨⟨y,h1,rfl⟩,h2⟩
theorem TabAt.drop (h:TabAt w r S) (j:Tryz.prog.underlying mt=some (.map 94 e)) (k:K) (t2 ty:TypeId) :
  ∃ b,(∀ n,(Builtin.delete_ #[mt,t2] ty #[.map (some r),kV k]).run Tryz.prog (w.drewN n) = .ok (.tuple #[]) (b.drewN n))∧TabAt b r (nQ k S)∧w.grownBy b (some r)∧b.heap.size=w.heap.size:=by
 obtain ⟨hs,L,hm,l⟩:=h
 obtain ⟨b,h1,h2,h3,h4⟩:=hm.delete j k t2 ty
 refine ⟨b,h1,⟨lI k hs,_,h2,tZ h2.keys (by rw [qH];exact (lI k hs).keys) fun x => ?_⟩,h3,h4⟩
 rw [DH k hm.keys,l.mem_iff,aB,aB]
 constructor
 ·rintro ⟨⟨y,d,rfl⟩,i⟩
  exact ⟨y,(my k S _).2 ⟨d,i⟩,rfl⟩
 ·rintro ⟨y,d,rfl⟩
  obtain ⟨h1,h2⟩:=(my k S _).1 d
  exact ⟨⟨y,h1,rfl⟩,h2⟩
theorem TabAt.kM (h:TabAt w r S) (b:Tryz.prog.underlying mt=some (.map 94 e)) (d:(zeroValue e).run Tryz.prog w = .ok (kP []) w) (k:K) :
  (Instr.lookup mt (.map (some r)) (kV k) true).run Tryz.prog w = .ok (.tuple #[kP ((jq k S).getD []),.bool (jq k S).isSome]) w:=by
 obtain ⟨hs,L,hm,i⟩:=h
 rw [hm.kM b d k,Da hs hm.keys i]
 cases jq k S <;> rfl
theorem TabAt.lookup (h:TabAt w r S) (b:Tryz.prog.underlying mt=some (.map 94 e)) (d:(zeroValue e).run Tryz.prog w = .ok (kP []) w) (k:K) :
  (Instr.lookup mt (.map (some r)) (kV k) false).run Tryz.prog w = .ok (kP ((jq k S).getD [])) w:=by
 obtain ⟨hs,L,hm,i⟩:=h
 rw [hm.lookup b d k,Da hs hm.keys i]
 cases jq k S <;> rfl
end
theorem ky {l:List E} (h:((l.map zS).map (·.1)).Nodup):l.Nodup:=by
 rw [qH] at h
 exact (dE.1 h).imp (fun h e=>h (by rw [e]))
theorem sY {x:E} {l:List E} (h:zS x∈l.map zS):x∈l:=by
 obtain ⟨y,b,e⟩:=aB.1 h
 rw [←IB e]
 exact b
theorem qO {l S:List E} (hl:l.Nodup) (d:S.Nodup) (h:(l.map zS).Perm (S.map zS)):l.Perm S :=
 (db hl d).2 fun x=>⟨fun b=>sY (h.mem_iff.1 (aB.2 ⟨x,b,rfl⟩)),fun b=>sY (h.mem_iff.2 (aB.2 ⟨x,b,rfl⟩))⟩
theorem tI (t:Int) (l:List E) (x:E):countS t (l++[x])=countS t l+if x.1.1=t then 1 else 0:=by
 unfold countS
 rw [List.countP_append,dg,List.countP_nil]
 simp
theorem tH (t:Int) {l m:List E} (h:l.Perm m):countS t l=countS t m:=h.countP_eq _
theorem rE {l m:List E} (b:l.Nodup) (h:∀ x∈l,x∈m):l.length≤m.length:=by
 classical
 induction l generalizing m with
 | nil=>exact aL _
 | cons x l ih =>
  rw [dw] at b
  have i:=(List.perm_cons_erase (h x (by simp))).length_eq
  have:=ih (m:=m.erase x) b.2 (fun y d=>(List.mem_erase_of_ne (fun e=>b.1 (by rw [←e];exact d))).2 (h y (aT _ d)))
  simp only [au] at i⊢
  omega
end Go.Proofs.YtkkfmkhbdoeglaaGreatDoor
namespace Go.Proofs.YtkkfmkhbdoeglaaGreatDoor
abbrev ry:=K×Option (List UInt8)
def ny (h w:List E):List E:=h.filter fun x=>(jq x.1 w).isNone
def qT (h w:List E):List E:=w.filter fun x => !decide (x∈h)
def lU (l:List E):List ry:=l.map fun x=>(x.1,none)
def kz (l:List E):List ry:=l.map fun x=>(x.1,some x.2)
def je (h w:List E):List ry:=lU (ny h w)++kz (qT h w)
def Ia (S:List E) (o:ry):List E:=match o.2 with
 | none=>nQ o.1 S
 | some v=>jJ o.1 v S
def jL (S:List E) (os:List ry):List E:=os.foldl Ia S
theorem yy (S:List E) (os us:List ry):jL S (os++us)=jL (jL S os) us:=di
theorem Eu {S:List E} (o:ry) (h:SortedE S):SortedE (Ia S o):=by
 unfold Ia
 split
 ·exact lI _ h
 ·exact sorted_put _ _ h
theorem qp:∀ {S:List E} (os:List ry),SortedE S→SortedE (jL S os)
 | _,[],h=>h
 | _,o::os,h=>qp os (Eu o h)
theorem xN:∀ (l:List E) (S:List E) (x:E),x∈jL S (lU l)↔x∈S∧x.1∉l.map (·.1)
 | [],S,x=>by simp [jL,lU]
 | y::l,S,x=>by
  have ih:=xN l (nQ y.1 S) x
  rw [my] at ih
  simp only [bq,aV,not_or]
  exact ih.trans ⟨fun h=>⟨h.1.1,h.1.2,h.2⟩,fun h=>⟨⟨h.1,h.2.1⟩,h.2.2⟩⟩
theorem vR:∀ (l:List E) (S:List E) (x:E),(l.map (·.1)).Nodup→(x∈jL S (kz l)↔x∈l∨(x∈S∧x.1∉l.map (·.1)))
 | [],S,x,_=>by simp [jL,kz]
 | y::l,S,x,b=>by
  rw [bq,dw] at b
  have ih:=vR l (jJ y.1 y.2 S) x b.2
  rw [jn] at ih
  have e:jL S (kz (y::l))=jL (jJ y.1 y.2 S) (kz l):=rfl
  rw [e,ih]
  simp only [bq,aV,not_or]
  constructor
  ·rintro (h | ⟨(h | h),h2⟩)
   ·exact .inl (.inr h)
   ·exact .inl (.inl h)
   ·exact .inr ⟨h.1,h.2,h2⟩
  ·rintro ((h | h) | ⟨h1,h2,h3⟩)
   ·exact .inr ⟨.inl h,by rw [h];exact b.1⟩
   ·exact .inl h
   ·exact .inr ⟨.inr ⟨h1,h2⟩,h3⟩
theorem SortedE.filter {S:List E} (h:SortedE S) (p:E→Bool):SortedE (S.filter p):=List.Pairwise.filter p h
theorem SortedE.take {S:List E} (h:SortedE S) (n:Nat):SortedE (S.take n):=h.sublist (List.take_sublist n S)
theorem SortedE.drop {S:List E} (h:SortedE S) (n:Nat):SortedE (S.drop n):=h.sublist (List.drop_sublist n S)
theorem SortedE.inj {S:List E} (h:SortedE S) {x y:E} (b:x∈S) (d:y∈S) (e:x.1=y.1):x=y:=by
 have h1:=(nS h.keys x.1 x.2).2 b
 have h2:=(nS h.keys y.1 y.2).2 d
 rw [e,h2] at h1
 exact Prod.ext e (Option.some.inj h1).symm
theorem sV {h w:List E} (x:E):x∈ny h w↔x∈h∧x.1∉w.map (·.1):=by
 unfold ny
 rw [cm,Option.isNone_iff_eq_none,get_none]
 refine and_congr_right fun _=>⟨fun H hk => ?_,fun H y b e=>H (aB.2 ⟨y,b,e⟩)⟩
 obtain ⟨y,b,e⟩:=aB.1 hk
 exact H y b e
theorem mz {h w:List E} (x:E):x∈qT h w↔x∈w∧x∉h:=by
 unfold qT
 rw [cm]
 simp
theorem yA (l:List E) (n:Nat):(lU l).take n=lU (l.take n):=(List.map_take ..).symm
theorem AH (l:List E) (n:Nat):(kz l).take n=kz (l.take n):=(List.map_take ..).symm
theorem lV (l:List E):(lU l).length=l.length:=aH _
theorem xh (l:List E):(kz l).length=l.length:=aH _
theorem xM {h w:List E} (hw:SortedE w) (n:Nat) (x:E):x∈jL h ((je h w).take n)↔
  x∈(qT h w).take (n-(ny h w).length)∨(x∈h∧x.1∉((ny h w).take n).map (·.1)∧x.1∉((qT h w).take (n-(ny h w).length)).map (·.1)):=by
 unfold je
 rw [List.take_append,yA,lV,AH,yy,vR _ _ _ ((show SortedE (qT h w) from hw.filter _).take _).keys,xN]
 rw [and_assoc]
theorem Dk {h w:List E} (m:SortedE h) (hw:SortedE w):jL h (je h w)=w:=by
 refine SortedE.ext (qp _ m) hw fun x => ?_
 have:=xM (h:=h) hw (je h w).length x
 rw [be] at this
 rw [this]
 have hl:(je h w).length=(ny h w).length+(qT h w).length:=by unfold je;rw [ar,lV,xh]
 rw [aS (by omega),aS (by omega)]
 constructor
 ·rintro (h1 | ⟨h1,h2,h3⟩)
  ·exact ((mz x).1 h1).1
  ·by_cases hk:x.1∈w.map (·.1)
   ·obtain ⟨y,b,e⟩:=aB.1 hk
    by_cases i:y∈h
    ·rw [←m.inj i h1 e];exact b
    ·exact absurd (aB.2 ⟨y,(mz y).2 ⟨b,i⟩,e⟩) h3
   ·exact absurd (aB.2 ⟨x,(sV x).2 ⟨h1,hk⟩,rfl⟩) h2
 ·intro l
  by_cases d:x∈h
  ·refine .inr ⟨d,fun hk => ?_,fun hk => ?_⟩
   ·obtain ⟨y,b,e⟩:=aB.1 hk
    exact ((sV y).1 b).2 (by rw [e];exact aB.2 ⟨x,l,rfl⟩)
   ·obtain ⟨y,b,e⟩:=aB.1 hk
    have j:=(mz y).1 b
    have:=hw.inj j.1 l e
    subst this
    exact j.2 d
  ·exact .inl ((mz x).2 ⟨l,d⟩)
theorem qb {α:Type} {l m:List α} (b:l.Nodup) (h:∀ x∈l,x∈m):l.length≤m.length:=by
 classical
 induction l generalizing m with
 | nil=>exact aL _
 | cons x l ih =>
  rw [dw] at b
  have i:=(List.perm_cons_erase (h x (by simp))).length_eq
  have:=ih (m:=m.erase x) b.2 (fun y d=>(List.mem_erase_of_ne (fun e=>b.1 (by rw [←e];exact d))).2 (h y (aT _ d)))
  simp only [au] at i⊢
  omega
theorem nN (t:Int) (S:List E):countS t S=((S.map (·.1)).filter fun k=>decide (k.1=t)).length:=by
 unfold countS
 rw [List.countP_eq_length_filter,List.filter_map,aH]
 rfl
theorem qF {S T:List E} (b:SortedE S) (h:∀ x∈S,x.1∈T.map (·.1)) (t:Int):countS t S≤countS t T:=by
 rw [nN,nN]
 refine qb (b.keys.filter _) fun k hk => ?_
 rw [cm] at hk⊢
 obtain ⟨x,d,rfl⟩:=aB.1 hk.1
 exact ⟨h x d,hk.2⟩
theorem vp {S:List E} {k:K} {v:List UInt8} (d:SortedE S) (hk:jq k S=none):countS k.1 (jJ k v S)=countS k.1 S+1:=by
 have j:(jJ k v S).Perm (S++[(k,v)]):=by
  refine (db (sorted_put k v d).nodup ?_).2 fun x => ?_
  ·rw [cj]
   refine ⟨d.nodup,by simp,fun a ha b i e => ?_⟩
   rw [az] at i
   subst i e
   exact (get_none k).1 hk _ ha rfl
  ·rw [jn,bU,az]
   constructor
   ·rintro (h | h)
    ·exact .inr h
    ·exact .inl h.1
   ·rintro (h | h)
    ·exact .inr ⟨h,(get_none k).1 hk x h⟩
    ·exact .inl h
 rw [show countS k.1 (jJ k v S)=countS k.1 (S++[(k,v)]) from j.countP_eq _]
 unfold countS
 rw [List.countP_append]
 simp
theorem FH {h w:List E} {room:Int→Nat} (r:SortedE h) (hw:SortedE w) (hc:∀ t,countS t w≤room t) {n:Nat} {k:K} {v:List UInt8} (b:(je h w)[n]?=some (k,some v)) :
  (jq k (jL h ((je h w).take n))).isSome=true∨countS k.1 (jL h ((je h w).take n))<room k.1:=by
 have i:=qp ((je h w).take n) r
 have j:(ny h w).length≤n:=by
  refine Nat.le_of_not_lt fun l => ?_
  unfold je lU at b
  rw [cI (by rw [aH];exact l),bh,ay l] at b
  cases b
 have s:(qT h w)[n-(ny h w).length]?=some (k,v):=by
  unfold je kz at b
  rw [cG (by rw [lV];exact j),bh,lV] at b
  cases o:(qT h w)[n-(ny h w).length]? with
  | none=>rw [o] at b;cases b
  | some x=>rw [o] at b;cases b;rfl
 have q:k∈w.map (·.1):=by
  have hm:(k,v)∈qT h w:=aZ s
  exact aB.2 ⟨(k,v),((mz _).1 hm).1,rfl⟩
 have m:∀ x∈jL h ((je h w).take n),x.1∈w.map (·.1):=fun x d=>by
  rcases (xM hw n x).1 d with h1 | ⟨h1,h2,-⟩
  ·exact aB.2 ⟨x,((mz x).1 (dA h1)).1,rfl⟩
  ·rw [aS j] at h2
   refine et fun hk=>h2 (aB.2 ⟨x,(sV x).2 ⟨h1,hk⟩,rfl⟩)
 cases u:jq k (jL h ((je h w).take n)) with
 | some _=>exact .inl rfl
 | none =>
  right
  have h1:=vp (v:=v) i u
  have h2:=qF (sorted_put k v i) (fun x d=>by
   rcases (jn k v _ x).1 d with rfl | ⟨d,-⟩
   ·exact q
   ·exact m x d) k.1
  have h3:=hc k.1
  omega
structure DpS where
 left:Int
 dead:Bool
 room:Nat→Int
 S:List E
 log:List (List UInt8)
def DpS.stop (d:DpS):DpS := {d with left:=if 0<d.left then d.left-1 else d.left,dead:=d.dead || decide (d.left=0)}
def DpS.vZ (d:DpS) (t:Int):Int:=if 0≤t∧t<3 then d.room t.toNat else 0
def lR (t:Int):UInt8:=UInt8.ofNat (t%256).toNat
def oC (k:K):List UInt8:=[100,114,111,112,32]++[lR k.1]++k.2
def sB (k:K) (v:List UInt8):List UInt8:=[112,117,116,32]++[lR k.1]++k.2++[61]++v
def lB:List UInt8:=[110,111,32,114,111,111,109]
def qu (o:ry):List UInt8:=match o.2 with
 | none=>oC o.1
 | some v=>sB o.1 v
def DpS.lY (d:DpS) (k:K):Bool:=(jq k d.S).isSome || decide ((countS k.1 d.S:Int)<d.vZ k.1)
def DpS.put (d:DpS) (k:K) (v:List UInt8):DpS :=
 if d.stop.dead then d.stop
 else if d.lY k then {d.stop with S:=jJ k v d.S,log:=d.log++[sB k v]}
 else {d.stop with log:=d.log++[sB k v]++[lB]}
def DpS.drop (d:DpS) (k:K):DpS:=if d.stop.dead then d.stop else {d.stop with S:=nQ k d.S,log:=d.log++[oC k]}
def DpS.step (d:DpS) (o:ry):DpS:=match o.2 with
 | none=>d.drop o.1
 | some v=>d.put o.1 v
def DpS.run (d:DpS) (os:List ry):DpS:=os.foldl DpS.step d
theorem DpS.sF (d:DpS) (os:List ry) (o:ry):d.run (os++[o])=(d.run os).step o:=di
def DpS.zl (d:DpS) (os:List ry) (j:Nat):DpS :=
 if d.left<0 then {d with S:=jL d.S (os.take j),log:=d.log++(os.take j).map qu}
 else {d with left:=d.left-(min d.left.toNat j:Nat),dead:=decide (d.left<j),S:=jL d.S (os.take (min d.left.toNat j)),log:=d.log++(os.take (min d.left.toNat j)).map qu}
theorem mj {α:Type} (l:List α) (j:Nat) {x : α} (h:l[j]?=some x):l.take (j+1)=l.take j++[x]:=by
 obtain ⟨b,rfl⟩:=aG.1 h
 exact aO b
theorem DpS.yd (d:DpS) (o:ry) (hs:d.stop.dead=false) (b:∀ v,o.2=some v→d.lY o.1=true):d.step o = {d.stop with S:=Ia d.S o,log:=d.log++[qu o]} := by
 obtain ⟨k,v⟩:=o
 cases v with
 | none =>
  unfold DpS.step DpS.drop Ia qu
  simp only [hs]
  rfl
 | some v =>
  have:=b v rfl
  unfold DpS.step DpS.put Ia qu
  simp only [hs,this]
  rfl
theorem DpS.yc (d:DpS) (o:ry) (hs:d.stop.dead=true):d.step o=d.stop:=by
 obtain ⟨k,v⟩:=o
 cases v with
 | none =>
  unfold DpS.step DpS.drop
  simp only [hs]
  rfl
 | some v =>
  unfold DpS.step DpS.put
  simp only [hs]
  rfl
theorem vz (S:List E) (os:List ry) (o:ry):jL S (os++[o])=Ia (jL S os) o:=di
theorem DpS.AO (d:DpS) (w:List E) (hd:d.dead=false) (q:SortedE d.S) (hw:SortedE w) (hk:∀ x∈w,0≤x.1.1∧x.1.1<3) (hc:∀ t:Nat,t<3→(countS t w:Int)≤d.room t) :
  ∀ j,j≤(je d.S w).length→d.run ((je d.S w).take j)=d.zl (je d.S w) j
 | 0,_=>by
  unfold DpS.zl
  simp only [ch,Nat.min_zero,du,cN]
  split
  ·rfl
  ·rw [show decide (d.left<((0:Nat):Int))=false by simp;omega,←hd]
   simp [DpS.run,jL]
 | j+1,C=>by
  obtain ⟨o,l⟩:∃ o,(je d.S w)[j]?=some o:=⟨_,ay (by omega)⟩
  have b:∀ v,o.2=some v→∀ L D G,({d with S:=jL d.S ((je d.S w).take j),log:=L,left:=G,dead:=D} : DpS).lY o.1=true:=fun v i L D G=>by
   have m:(je d.S w)[j]?=some (o.1,some v):=by rw [l,←i]
   have hm:=aZ m
   have r:0≤o.1.1∧o.1.1<3:=by
    unfold je at hm
    rw [bU] at hm
    rcases hm with hm | hm
    ·obtain ⟨x,-,e⟩:=aB.1 hm
     injection e with s u
     cases u
    ·obtain ⟨x,y,e⟩:=aB.1 hm
     injection e with s u
     rw [←s]
     exact hk x ((mz x).1 y).1
   have:=FH (room:=fun t=>countS t w) q hw (fun _=>ah _) m
   unfold DpS.lY DpS.vZ
   rw [dJ]
   refine this.imp id fun h => ?_
   have h3:=hc o.1.1.toNat (by omega)
   rw [show ((o.1.1.toNat:Nat):Int)=o.1.1 by omega] at h3
   rw [aF r,dj]
   show ((countS o.1.1 (jL d.S ((je d.S w).take j)):Nat):Int)<d.room o.1.1.toNat
   omega
  rw [mj _ _ l,DpS.sF,DpS.AO d w hd q hw hk hc j (by omega)]
  unfold DpS.zl
  by_cases hl:d.left<0
  ·rw [aF hl,aF hl,DpS.yd _ _ (by unfold DpS.stop;simp [hd];omega) (fun v i=>b v i _ _ _),mj _ _ l,vz,bC]
   unfold DpS.stop
   simp only [hd,DpS.mk.injEq,bq,du,bg,and_true]
   refine ⟨by rw [aw (by omega)],?_⟩
   simp
   omega
  ·rw [aw hl,aw hl]
   by_cases B:j<d.left.toNat
   ·rw [show min d.left.toNat j=j by omega,show min d.left.toNat (j+1)=j+1 by omega,DpS.yd _ _ (by unfold DpS.stop;simp;omega) (fun v i=>b v i _ _ _),mj _ _ l,vz,bC]
    unfold DpS.stop
    simp only [DpS.mk.injEq,bq,du,bg,and_true]
    refine ⟨by rw [aF (by omega)];omega,?_⟩
    rw [dI]
    simp
    omega
   ·rw [show min d.left.toNat j=d.left.toNat by omega,show min d.left.toNat (j+1)=d.left.toNat by omega,DpS.yc _ _ (by unfold DpS.stop;simp;omega)]
    unfold DpS.stop
    simp only [DpS.mk.injEq,and_true]
    refine ⟨by rw [aw (by omega)],?_⟩
    rw [dI]
    simp
    omega
end Go.Proofs.YtkkfmkhbdoeglaaGreatDoor
