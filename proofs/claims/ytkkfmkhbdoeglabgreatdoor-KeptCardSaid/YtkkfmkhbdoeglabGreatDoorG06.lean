/- A part of what is proved here: lemmas and contracts of single functions. No condition but those that each names. -/
import Derived.Test.YtkkfmkhbdoeglabGreatDoorG00
import Derived.Maps.OwnIn
import Derived.Test.YtkkfmkhbdoeglabGreatDoorG02
import Derived.Test.YtkkfmkhbdoeglabGreatDoorG03
import Derived.Test.YtkkfmkhbdoeglabGreatDoorG04
import Derived.Test.YtkkfmkhbdoeglabGreatDoorG05
namespace Go.Proofs.YtkkfmkhbdoeglabGreatDoor
open Go.RowKit
def Cu.op (cu:Cu) (b:List K):Cu×OpB :=
 match (cu.take 2).2 with
 | [x,y] =>
  let C:=((cu.take 2).1.jC (x.toNat==1 || x.toNat==2) 6).jC (decide (y.toNat<3)) 6
  match C.f with
  | some _=>(C,⟨x.toNat,y.toNat,[],[]⟩)
  | none=>C.me x.toNat y.toNat b (fS y.toNat) (gw y.toNat)
 | _=>(cu,⟨0,0,[],[]⟩)
theorem IS (base c r:Nat) (cu:Cu) (b:List K) (w:World) (h:CurAt w base c cu) (hm:gQ w r b) (q:ShapesVar w) (d:2≤base) (o:base≤w.heap.size) (j:c<r) :
  Calls Tryz.prog 187 #[.pointer (some ⟨c,0,none⟩),.map (some r)] w fun e w'=>e = .returned (zu (cu.op b).2)∧CurAt w' base c (cu.op b).1∧((cu.op b).1.f=none→gQ w' r (b++[((cu.op b).2.table,(cu.op b).2.key)]))∧Ext (fun i=>i=c∨i=r) w w':=by
 obtain ⟨x,y,l⟩:=vg (Cu.take_length cu 2)
 unfold Cu.op
 rw [l]
 simp only
 cases B:((((cu.take 2).1.jC (x.toNat==1 || x.toNat==2) 6).jC (decide (y.toNat<3)) 6)).f with
 | some z =>
  simp only
  refine (IT base c r cu x y _ _ w h o l ?_ ?_ (by rw [B];simp)).mono fun e w' ⟨h1,h2,h3⟩=>⟨h1,h2,fun k=>absurd (B.symm.trans k) (by simp),⟨h3.os,h3.tape,h3.output,h3.size,fun k hk hs=>h3.block k hk (fun e=>hs (.inl (by cases e;rfl)))⟩⟩
  ·by_cases h1:x.toNat<1
   ·exact .inl ⟨h1,by rw [eR,aA,aA];omega⟩
   ·by_cases h2:x.toNat<2
    ·exact .inr (.inl ⟨by omega,h2,by rw [dJ,a8,a8];omega⟩)
    ·by_cases h3:x.toNat<3
     ·exact .inr (.inr (.inl ⟨by omega,h3,by rw [dJ,a8,a8];omega⟩))
     ·exact .inr (.inr (.inr ⟨by omega,by rw [eR,aA,aA];omega⟩))
  ·by_cases h1:y.toNat<3
   ·exact .inl ⟨h1,cK h1⟩
   ·exact .inr ⟨by omega,bY h1⟩
 | none =>
  simp only
  have C:=Cu.rR B
  have m:=Cu.rR C.1
  rw [m.2,C.2,Cu.nH,Cu.nH]
  have s:y.toNat<3:=dE C.2
  have u:x.toNat=1∨x.toNat=2:=by simpa using m.2
  have D:y.toNat=0∨y.toNat=1∨y.toNat=2:=by omega
  rcases u with u | u <;> rcases D with s | s | s <;> rw [u,s]
  ·exact IP 0 6 4 (.inl ⟨rfl,rfl,rfl⟩) base c r cu x y b w h hm q d o j l (by omega) (by omega) m.1
  ·exact IP 1 5 4 (.inr (.inl ⟨rfl,rfl,rfl⟩)) base c r cu x y b w h hm q d o j l (by omega) (by omega) m.1
  ·exact IP 2 2 2 (.inr (.inr ⟨rfl,rfl,rfl⟩)) base c r cu x y b w h hm q d o j l (by omega) (by omega) m.1
  ·exact IQ 0 6 4 (.inl ⟨rfl,rfl,rfl⟩) base c r cu x y b w h hm q d o j l (by omega) (by omega) m.1
  ·exact IQ 1 5 4 (.inr (.inl ⟨rfl,rfl,rfl⟩)) base c r cu x y b w h hm q d o j l (by omega) (by omega) m.1
  ·exact IQ 2 2 2 (.inr (.inr ⟨rfl,rfl,rfl⟩)) base c r cu x y b w h hm q d o j l (by omega) (by omega) m.1
end Go.Proofs.YtkkfmkhbdoeglabGreatDoor
namespace Go.Proofs.YtkkfmkhbdoeglabGreatDoor
open Go.RowKit
def iL:Nat→Cu→List K→List OpB→Cu×List OpB
 | 0,c,_,os=>(c,os)
 | n+1,c,b,os =>
  match c.f with
  | some _=>(c,os)
  | none=>iL n (c.op b).1 (b++[((c.op b).2.table,(c.op b).2.key)]) (os++[(c.op b).2])
def pt (l:List UInt8):(Nat×List OpB)⊕(Nat×Nat) :=
 let a:=Cu.take ⟨l,0,0,none⟩ 8
 let b:=(a.1.jC (isVersionB (iP a.2)) 4).take 1
 let n:=(b.2.headD 0).toNat
 let L:=iL n (b.1.jC (decide (1≤n)&&decide (n≤8)) 5) [] []
 match L.1.ended.f with
 | some f => .inr f
 | none => .inl (iP a.2,L.2)
end Go.Proofs.YtkkfmkhbdoeglabGreatDoor
namespace Go.Proofs.YtkkfmkhbdoeglabGreatDoor
open Go.RowKit
def o5 (o:OpB):Bool:=if o.kind=2 then o.val==[] else gL o.table o.val
def iD (o:OpB) (ahead:List K):Nat :=
 if o.kind<1∨2<o.kind∨o.table<0∨2<o.table then 6
 else if iz o.table o.key=false then 7
 else if ahead.contains (o.table,o.key)=true then 8
 else if o5 o=false then 9
 else 0
def gi:Nat→List K→List OpB→Option (Nat×Nat)
 | _,_,[]=>none
 | i,b,o::os=>if iD o b=0 then gi (i+1) (b++[(o.table,o.key)]) os else some (iD o b,i)
def gK (v:Nat) (os:List OpB):Option (Nat×Nat) :=
 if isVersionB v=false then some (4,0)
 else if os.length<1∨8<os.length then some (5,0)
 else gi 0 [] os
def gS (o:OpB):List UInt8:=UInt8.ofNat o.kind.toNat::UInt8.ofNat o.table.toNat::(o.key++o.val)
def jb (v:Nat) (os:List OpB):List UInt8:=be8 v++UInt8.ofNat os.length::os.flatMap gS
def kQ (s:List UInt8) (at':Nat) (b:List K):(OpB×Nat)⊕(Nat×Nat) :=
 match s.drop at' with
 | x::y::r =>
  if x.toNat<1∨2<x.toNat∨2<y.toNat then .inr (6,at')
  else if r.length<fS y.toNat then .inr (1,at'+2)
  else if iz y.toNat (r.take (fS y.toNat))=false then .inr (7,at'+2)
  else if b.contains ((y.toNat:Int),r.take (fS y.toNat))=true then .inr (8,at'+2)
  else if x.toNat=2 then .inl (⟨2,y.toNat,r.take (fS y.toNat),[]⟩,at'+2+fS y.toNat)
  else if r.length<fS y.toNat+gw y.toNat then .inr (1,at'+2+fS y.toNat)
  else if gL y.toNat ((r.drop (fS y.toNat)).take (gw y.toNat))=false then .inr (9,at'+2+fS y.toNat)
  else .inl (⟨1,y.toNat,r.take (fS y.toNat),(r.drop (fS y.toNat)).take (gw y.toNat)⟩,at'+2+fS y.toNat+gw y.toNat)
 | _ => .inr (1,at')
def jf (s:List UInt8):Nat→Nat→List K→List OpB→(Nat×List OpB)⊕(Nat×Nat)
 | 0,at',_,os => .inl (at',os)
 | n+1,at',b,os =>
  match kQ s at' b with
  | .inr f => .inr f
  | .inl (o,to)=>jf s n to (b++[(o.table,o.key)]) (os++[o])
def mg (s:List UInt8):(Nat×List OpB)⊕(Nat×Nat) :=
 if s.length<8 then .inr (1,0)
 else if isVersionB (iP (s.take 8))=false then .inr (4,0)
 else if s.length<9 then .inr (1,8)
 else if ((s.drop 8).headD 0).toNat<1∨8<((s.drop 8).headD 0).toNat then .inr (5,8)
 else match jf s ((s.drop 8).headD 0).toNat 9 [] [] with
  | .inr f => .inr f
  | .inl (at',os)=>if at'<s.length then .inr (2,at') else .inl (iP (s.take 8),os)
theorem Cu.ir (l:List UInt8) (a to n:Nat):(⟨l,a,to,none⟩:Cu).take n=if l.length<to+n then (⟨l,a,to,some (1,to)⟩,List.replicate n 0) else (⟨l,to,to+n,none⟩,(l.drop to).take n):=rfl
theorem Cu.jV (l:List UInt8) (a to n:Nat) (f:Nat×Nat):(⟨l,a,to,some f⟩:Cu).take n=(⟨l,a,to,some f⟩,List.replicate n 0):=rfl
theorem Cu.jj (l:List UInt8) (a to k:Nat) (ok:Bool):(⟨l,a,to,none⟩:Cu).jC ok k=if ok=true then ⟨l,a,to,none⟩ else ⟨l,a,to,some (k,a)⟩:=rfl
theorem Cu.iR (l:List UInt8) (a to k:Nat) (ok:Bool) (f:Nat×Nat):(⟨l,a,to,some f⟩:Cu).jC ok k=⟨l,a,to,some f⟩:=rfl
theorem drop2 {l:List UInt8} {to:Nat} {x y:UInt8} {r:List UInt8} (h:l.drop to=x::y::r):l.drop (to+2)=r∧l.length=to+2+r.length:=by
 have h1:(l.drop to).drop 2=r:=by rw [h];rfl
 rw [cN] at h1
 have h2:=aZ List.length h
 rw [bg,ar,ar] at h2
 exact ⟨h1,by omega⟩
theorem Cu.EU (l:List UInt8) (a to:Nat) (m:List K) :
  match kQ l to m with
  | .inr f=>((⟨l,a,to,none⟩:Cu).op m).1.f=some f
  | .inl (o,s)=>∃ D,(⟨l,a,to,none⟩:Cu).op m=(⟨l,D,s,none⟩,o)∧s≤l.length:=by
 unfold kQ
 match h:l.drop to with
 | [] =>
  have:l.length<to+2:=by have:=aZ List.length h;simp at this;omega
  simp [Cu.op,Cu.ir,this,List.replicate,Cu.iR]
 | [x] =>
  have:l.length<to+2:=by have:=aZ List.length h;simp at this;omega
  simp [Cu.op,Cu.ir,this,List.replicate,Cu.iR]
 | x::y::r =>
  obtain ⟨hd,hl⟩:=drop2 h
  have E:¬l.length<to+2:=by omega
  have b:((x.toNat==1 || x.toNat==2)=true∧y.toNat<3)↔¬(x.toNat<1∨2<x.toNat∨2<y.toNat):=by
   simp only [dJ,a8];omega
  simp only [Cu.op,Cu.ir,E,df,h,bA,cd]
  by_cases q:x.toNat<1∨2<x.toNat∨2<y.toNat
  ·rw [aD q]
   have:=mt b.1 (fun e=>e q)
   by_cases h1:(x.toNat==1 || x.toNat==2)=true
   ·have h2:¬y.toNat<3:=fun e=>this ⟨h1,e⟩
    simp [Cu.jj,h1,h2]
   ·simp [Cu.jj,h1,Cu.iR]
  ·rw [au q]
   obtain ⟨h1,h2⟩:=b.2 q
   simp only [Cu.jj,h1,h2,decide_true,dM,Cu.me,Cu.ir,hl]
   by_cases hs:r.length<fS y.toNat
   ·have d:to+2+r.length<to+2+fS y.toNat:=by omega
    simp only [hs,d,dM,Cu.iR,Cu.jV]
    split <;> rfl
   ·have d:¬to+2+r.length<to+2+fS y.toNat:=by omega
    simp only [hs,d,df,hd,Cu.jj]
    cases hk:iz (y.toNat:Int) (r.take (fS y.toNat)) with
    | false =>
     simp only [dM,ek,df,Cu.iR,Cu.jV]
     split <;> rfl
    | true =>
     simp only [dP,df,dM,Cu.jj]
     cases hc:m.contains ((y.toNat:Int),r.take (fS y.toNat)) with
     | true =>
      simp only [dM,Bool.not_true,ek,df,Cu.iR,Cu.jV]
      split <;> rfl
     | false =>
      simp only [Bool.not_false,ek,df,dM]
      by_cases i:x.toNat=2
      ·have:¬(x.toNat:Int)=1:=by omega
       rw [aD i,au this]
       exact ⟨_,by rw [i];rfl,by omega⟩
      ·have u:(x.toNat:Int)=1:=by omega
       rw [au i,aD u]
       simp only [Cu.ir,hl]
       by_cases B:r.length<fS y.toNat+gw y.toNat
       ·have j:to+2+r.length<to+2+fS y.toNat+gw y.toNat:=by omega
        simp only [B,j,dM,Cu.iR]
       ·have j:¬to+2+r.length<to+2+fS y.toNat+gw y.toNat:=by omega
        have C:l.drop (to+2+fS y.toNat)=r.drop (fS y.toNat):=by rw [←hd,cN]
        simp only [B,j,df,C,Cu.jj]
        cases F:gL (y.toNat:Int) ((r.drop (fS y.toNat)).take (gw y.toNat)) with
        | false=>simp only [dM,ek,df]
        | true =>
         simp only [dP,df,dM]
         exact ⟨_,by rw [u],by omega⟩
theorem sr (n:Nat) (c:Cu) (b:List K) (os:List OpB) (f:Nat×Nat) (h:c.f=some f):(iL n c b os).1=c:=by
 cases n with
 | zero=>rfl
 | succ n=>unfold iL;rw [h]
theorem pR (l:List UInt8):∀ (n a to:Nat) (b:List K) (os:List OpB),to≤l.length→
  match jf l n to b os with
  | .inr f=>(iL n ⟨l,a,to,none⟩ b os).1.f=some f
  | .inl (d,m)=>∃ j,iL n ⟨l,a,to,none⟩ b os=(⟨l,j,d,none⟩,m)∧d≤l.length
 | 0,a,to,b,os,h=>⟨a,rfl,h⟩
 | n+1,a,to,b,os,h=>by
  have hc:=Cu.EU l a to b
  unfold jf
  cases i:kQ l to b with
  | inr f =>
   rw [i] at hc
   simp only at hc⊢
   unfold iL
   simp only
   rw [sr n _ _ _ f hc]
   exact hc
  | inl x =>
   obtain ⟨o,d⟩:=x
   rw [i] at hc
   obtain ⟨j,he,hle⟩:=hc
   simp only
   have ih:=pR l n j d (b++[(o.table,o.key)]) (os++[o]) hle
   unfold iL
   simp only [he]
   exact ih
theorem nN (l:List UInt8):pt l=mg l:=by
 unfold pt mg
 by_cases h8:l.length<8
 ·have b:l.length<0+8:=by omega
  simp [Cu.ir,h8,Cu.iR,Cu.jV,List.replicate,iL,Cu.ended]
 ·have b:¬l.length<0+8:=by omega
  simp only [Cu.ir,h8,df,cy,bG,Cu.jj]
  cases o:isVersionB (iP (l.take 8)) with
  | false=>simp [Cu.jV,Cu.iR,List.replicate,iL,Cu.ended]
  | true =>
   simp only [dM,dP,df,Cu.ir]
   by_cases h9:l.length<9
   ·have d:l.length<8+1:=h9
    simp [h9,Cu.iR,List.replicate,iL,Cu.ended]
   ·have d:¬l.length<8+1:=h9
    have i:((l.drop 8).take 1).headD 0=(l.drop 8).headD 0:=by
     cases l.drop 8 <;> rfl
    simp only [h9,df,i,Cu.jj]
    generalize ((l.drop 8).headD 0).toNat=n
    by_cases j:n<1∨8<n
    ·have:¬((decide (1≤n)&&decide (n≤8))=true):=by simp;omega
     rw [au this,aD j]
     cases n with
     | zero=>rfl
     | succ n=>rfl
    ·have:(decide (1≤n)&&decide (n≤8))=true:=by simp;omega
     rw [aD this,au j]
     have hd:=pR l n 8 9 [] [] (by omega)
     cases hc:jf l n 9 [] [] with
     | inr f =>
      rw [hc] at hd
      simp only at hd⊢
      simp [Cu.ended,hd]
     | inl x =>
      obtain ⟨to,os⟩:=x
      rw [hc] at hd
      obtain ⟨q,he,hle⟩:=hd
      simp only [he,Cu.ended]
      by_cases m:to<l.length <;> simp [m]
theorem js {t:Int} {k:List UInt8} (h:iz t k=true):k.length=fS t :=
 Decidable.byContradiction fun b=>by rw [wk b] at h;cases h
theorem iT {t:Int} {k:List UInt8} (b:0≤t) (h2:t<3) (h:gL t k=true):k.length=gw t :=
 Decidable.byContradiction fun d=>by rw [sE b h2 d] at h;cases h
theorem ny {o:OpB} {b:List K} (h:iD o b=0) :
  (o.kind=1∨o.kind=2)∧0≤o.table∧o.table<3∧iz o.table o.key=true∧b.contains (o.table,o.key)=false∧o5 o=true:=by
 unfold iD at h
 split at h
 ·cases h
 ·split at h
  ·cases h
  ·split at h
   ·cases h
   ·split at h
    ·cases h
    ·rename_i h1 h2 h3 h4
     exact ⟨by omega,by omega,by omega,(by simpa using h2),Bool.not_eq_true _▸h3,(by simpa using h4)⟩
theorem lI {o:OpB} {b:List K} (h1:o.kind=1∨o.kind=2) (h2:0≤o.table) (h3:o.table<3) (h4:iz o.table o.key=true) (h5:b.contains (o.table,o.key)=false) (h6:o5 o=true):iD o b=0:=by
 unfold iD
 rw [au (by omega),h4,au (by decide),h5,au (by decide),h6,au (by decide)]
theorem tX {s:List UInt8} {at' to:Nat} {j:List K} {o:OpB} (h:kQ s at' j = .inl (o,to)) :
  iD o j=0∧s.drop at'=gS o++s.drop to∧to=at'+(gS o).length:=by
 unfold kQ at h
 split at h
 ·rename_i x y r hd
  obtain ⟨b,hl⟩:=drop2 hd
  split at h
  ·cases h
  ·rename_i C
   split at h
   ·cases h
   ·rename_i u
    split at h
    ·cases h
    ·rename_i hk
     split at h
     ·cases h
     ·rename_i hc
      have d:iz (y.toNat:Int) (r.take (fS y.toNat))=true:=by simpa using hk
      have i:j.contains ((y.toNat:Int),r.take (fS y.toNat))=false:=by simpa using hc
      have hlen:(r.take (fS y.toNat)).length=fS y.toNat:=by rw [az];omega
      split at h
      ·rename_i h2
       cases h
       refine ⟨lI (.inr rfl) (by simp only;omega) (by simp only;omega) d i rfl,?_,by simp only [gS,ar,aq,hlen,aJ];omega⟩
       rw [hd,←cN,b]
       have l:UInt8.ofNat (2:Int).toNat=x:=by rw [←eu];simp [h2]
       simp only [gS,l,UInt8.ofNat_toNat,dV,cM,aX,cw]
      ·rename_i h2
       split at h
       ·cases h
       ·rename_i B
        split at h
        ·cases h
        ·rename_i q
         cases h
         have m:gL (y.toNat:Int) ((r.drop (fS y.toNat)).take (gw y.toNat))=true:=by simpa using q
         have h1:x.toNat=1:=by omega
         refine ⟨lI (.inl rfl) (by simp only;omega) (by simp only;omega) d i m,?_,by simp only [gS,ar,aq,hlen,az,bg];omega⟩
         rw [hd,←cN,←cN,b]
         have l:UInt8.ofNat (1:Int).toNat=x:=by rw [←eu];simp [h1]
         simp only [gS,l,UInt8.ofNat_toNat,dV,aX,bj,cw]
 ·cases h
theorem nS {o:OpB} : (gS o).length=2+o.key.length+o.val.length:=by
 simp [gS];omega
theorem Ci {s t:List UInt8} {at':Nat} {i:List K} {o:OpB} (h:iD o i=0) (hs:s.drop at'=gS o++t) :
  kQ s at' i = .inl (o,at'+(gS o).length):=by
 obtain ⟨h1,h2,h3,h4,h5,h6⟩:=ny h
 obtain ⟨j,T,k,v⟩:=o
 simp only at h1 h2 h3 h4 h5 h6
 have b:=js h4
 obtain ⟨y,l⟩:∃ y:UInt8,(y.toNat:Int)=T:=⟨UInt8.ofNat T.toNat,by simp;omega⟩
 have m:UInt8.ofNat T.toNat=y:=by rw [←l];simp
 rw [nS]
 unfold kQ
 simp only [gS,aX,bj] at hs
 rw [hs,m]
 simp only
 have q:(k++(v++t)).take (fS T)=k:=by rw [←b,ep]
 have r:(k++(v++t)).drop (fS T)=v++t:=by rw [←b,eB]
 rw [l,q,r]
 have x:(UInt8.ofNat j.toNat).toNat=j.toNat:=by simp;omega
 rw [x,au (by omega),au (by simp [b]),h4,au (by decide),h5,au (by decide)]
 rcases h1 with rfl | rfl
 ·rw [au (by decide)]
  have h6:gL T v=true:=h6
  have d:=iT h2 h3 h6
  have u:(v++t).take (gw T)=v:=by rw [←d,ep]
  rw [u,au (by simp [b,d]),h6,au (by decide)]
  rw [b,d]
  congr 2
  omega
 ·have h6:v=[]:=by simpa [o5] using h6
  subst h6
  rw [aD (by rfl)]
  simp [b]
  omega
theorem sq {s:List UInt8} : ∀ {n at':Nat} {d:List K} {os:List OpB} {to:Nat} {b:List OpB},jf s n at' d os = .inl (to,b)→
  ∃ us,b=os++us∧us.length=n∧(∀ i,gi i d us=none)∧s.drop at'=us.flatMap gS++s.drop to∧to=at'+(us.flatMap gS).length
 | 0,at',d,os,to,b,h=>by
  cases h
  exact ⟨[],by simp,rfl,fun _=>rfl,rfl,rfl⟩
 | n+1,at',d,os,to,b,h=>by
  unfold jf at h
  cases hc:kQ s at' d with
  | inr f=>rw [hc] at h;cases h
  | inl x =>
   obtain ⟨o,m⟩:=x
   rw [hc] at h
   simp only at h
   obtain ⟨h1,h2,h3⟩:=tX hc
   obtain ⟨us,j,l,q,r,u⟩:=sq h
   refine ⟨o::us,by rw [j];simp,by simp [l],fun i => ?_,?_,?_⟩
   ·unfold gi
    rw [aD h1]
    exact q (i+1)
   ·rw [h2,r,cP,bj]
   ·rw [u,h3,cP,aq];omega
theorem tZ {s:List UInt8} : ∀ {us:List OpB} {at' i:Nat} {b:List K} {os:List OpB} {t:List UInt8},gi i b us=none→s.drop at'=us.flatMap gS++t→
  jf s us.length at' b os = .inl (at'+(us.flatMap gS).length,os++us)
 | [],at',i,b,os,t,h,hs=>by simp [jf]
 | o::us,at',i,b,os,t,h,hs=>by
  unfold gi at h
  split at h
  ·rename_i d
   rw [cP,bj] at hs
   have hc:=Ci d hs
   have hd:s.drop (at'+(gS o).length)=us.flatMap gS++t:=by rw [←cN,hs,eB]
   have ih:=tZ (os:=os++[o]) h hd
   rw [ar]
   unfold jf
   rw [hc]
   simp only [ih,cP,aq,bj,aX,aO]
   congr 2
   omega
  ·cases h
theorem Hv {k:List UInt8} (h:k.length=8):∃ a b c d e f g i,k=[a,b,c,d,e,f,g,i]:=by
 match k,h with
 | [a,b,c,d,e,f,g,i],_=>exact ⟨a,b,c,d,e,f,g,i,rfl⟩
theorem sL (v:Nat) (h:v<18446744073709551616):iP (be8 v)=v:=by
 simp [iP,be8,List.range,List.range.loop]
 omega
theorem Ae (l:List UInt8) (h:l.length=8):be8 (iP l)=l:=by
 obtain ⟨a,b,c,d,e,f,g,i,rfl⟩:=Hv h
 have ha:=a.toNat_lt
 have j:=b.toNat_lt
 have hc:=c.toNat_lt
 have hd:=d.toNat_lt
 have he:=e.toNat_lt
 have m:=f.toNat_lt
 have o:=g.toNat_lt
 have q:=i.toNat_lt
 simp only [iP,be8,List.range,List.range.loop,bq,du,eL,List.foldl_nil,fw,and_true,←eu,dQ]
 refine ⟨?_,?_,?_,?_,?_,?_,?_,?_⟩ <;> simp <;> omega
theorem lj {v:Nat} (h:isVersionB v=true):v<18446744073709551616:=by
 unfold isVersionB at h;simp at h;omega
theorem DK (v:Nat) (os:List OpB) (h:gK v os=none):mg (jb v os) = .inl (v,os):=by
 unfold gK at h
 split at h
 ·cases h
 ·rename_i i
  split at h
  ·cases h
  ·rename_i m
   have b:isVersionB v=true:=by simpa using i
   have hl:(jb v os).length=9+(os.flatMap gS).length:=by unfold jb;rw [aq,gm,ar];omega
   have j:(jb v os).take 8=be8 v:=by unfold jb;rw [←gm v,ep]
   have hd:(jb v os).drop 8=UInt8.ofNat os.length::os.flatMap gS:=by unfold jb;rw [←gm v,eB]
   have d:(jb v os).drop 9=os.flatMap gS:=by rw [show 9=8+1 from rfl,←cN,hd];rfl
   have l:(UInt8.ofNat os.length).toNat=os.length:=by simp;omega
   unfold mg
   rw [au (by omega),j,sL v (lj b),au (by simp [b]),au (by omega),hd]
   simp only [fx,l]
   rw [au (by omega),tZ (t:=[]) h (by rw [d,cM])]
   simp only [aO]
   rw [au (by omega)]
theorem uZ (s:List UInt8) (v:Nat) (os:List OpB) (h:mg s = .inl (v,os)):gK v os=none∧jb v os=s:=by
 unfold mg at h
 split at h
 ·cases h
 ·split at h
  ·cases h
  ·split at h
   ·cases h
   ·split at h
    ·cases h
    ·rename_i h8 u h9 E
     split at h
     ·cases h
     ·rename_i at' C hc
      split at h
      ·cases h
      ·rename_i D
       cases h
       obtain ⟨us,i,j,y,l,F⟩:=sq hc
       rw [aO] at i
       rw [i]
       have m:(s.take 8).length=8:=by rw [az];omega
       have b:s.drop at'=[]:=fI (by omega)
       refine ⟨?_,?_⟩
       ·unfold gK
        rw [au u,au (by omega)]
        exact y 0
       ·unfold jb
        rw [Ae _ m]
        obtain ⟨x,r,d⟩:∃ x r,s.drop 8=x::r:=by
         cases B:s.drop 8 with
         | nil=>have:=aZ List.length B;simp at this;omega
         | cons x r=>exact ⟨x,r,rfl⟩
        have o:s.drop 9=r:=by rw [show 9=8+1 from rfl,←cN,d];rfl
        rw [o,b,cM] at l
        rw [d] at j
        rw [←l]
        have q:UInt8.ofNat us.length=x:=by rw [j];simp
        rw [q,←d,cw]
theorem Ch {s:List UInt8} {at':Nat} {b:List K} {f:Nat×Nat} (h:kQ s at' b = .inr f) (hle:at'≤s.length):1≤f.1∧f.1≤14∧f.2≤s.length:=by
 unfold kQ at h
 split at h
 ·rename_i x y r hd
  obtain ⟨d,hl⟩:=drop2 hd
  repeat' (split at h)
  all_goals first | (cases h;simp only;omega) | cases h
 ·cases h;simp only;omega
theorem tY {s:List UInt8} : ∀ {n at':Nat} {b:List K} {os:List OpB} {f:Nat×Nat},jf s n at' b os = .inr f→at'≤s.length→1≤f.1∧f.1≤14∧f.2≤s.length
 | 0,at',b,os,f,h,hle=>by cases h
 | n+1,at',b,os,f,h,hle=>by
  unfold jf at h
  cases hc:kQ s at' b with
  | inr g=>rw [hc] at h;cases h;exact Ch hc hle
  | inl x =>
   obtain ⟨o,m⟩:=x
   rw [hc] at h
   obtain ⟨h1,h2,h3⟩:=tX hc
   refine tY h ?_
   have:=aZ List.length h2
   rw [aq,bg,bg] at this
   have d := @nS o
   omega
theorem Dm {s:List UInt8} {f:Nat×Nat} (h:mg s = .inr f):1≤f.1∧f.1≤14∧f.2≤s.length:=by
 unfold mg at h
 split at h
 ·cases h;simp
 ·split at h
  ·cases h;simp
  ·split at h
   ·cases h;simp only;omega
   ·split at h
    ·cases h;simp only;omega
    ·split at h
     ·rename_i b hc
      cases h
      exact tY hc (by omega)
     ·split at h
      ·cases h;simp only;omega
      ·cases h
theorem zv (o:OpB) (b:List K) (h:iD o b≠0):1≤iD o b∧iD o b≤14:=by
 refine ⟨by omega,?_⟩
 unfold iD
 repeat' split
 all_goals omega
theorem qF:∀ (os:List OpB) (i:Nat) (b:List K) {f:Nat×Nat},gi i b os=some f→1≤f.1∧f.1≤14∧i≤f.2∧f.2<i+os.length
 | [],i,b,f,h=>by cases h
 | o::os,i,b,f,h=>by
  unfold gi at h
  split at h
  ·have:=qF os (i+1) _ h
   rw [ar]
   omega
  ·rename_i d
   cases h
   have:=zv o b d
   simp only [ar]
   omega
theorem qE {v:Nat} {os:List OpB} {f:Nat×Nat} (h:gK v os=some f):1≤f.1∧f.1≤14∧f.2≤8:=by
 unfold gK at h
 split at h
 ·cases h;simp
 ·split at h
  ·cases h;simp
  ·have:=qF os 0 [] h
   omega
end Go.Proofs.YtkkfmkhbdoeglabGreatDoor
namespace Go.Proofs.YtkkfmkhbdoeglabGreatDoor
open Go.RowKit Go.ChangeMaps
abbrev Z:=K×Value×Nat
def oM (z:Z):MapEntry:=⟨kV z.1,z.2.1,z.2.2⟩
def G6 (z:Z):K×Value:=(z.1,z.2.1)
theorem BN:∀ (es:List MapEntry) (l:List (K×Value)),es.map (fun e=>(e.key,e.val))=l.map (fun x=>(kV x.1,x.2))→∃ zs:List Z,es=zs.map oM∧l=zs.map G6
 | [],[],_=>⟨[],rfl,rfl⟩
 | [],_::_,h=>by simp at h
 | _::_,[],h=>by simp at h
 | e::es,x::l,h=>by
  simp only [bq,fw,Prod.mk.injEq] at h
  obtain ⟨zs,rfl,rfl⟩:=BN es l h.2
  refine ⟨(x.1,x.2,e.born)::zs,?_,rfl⟩
  rw [bq]
  congr 1
  unfold oM
  rw [←h.1.1,←h.1.2]
def gB (w:World) (r q:Nat) (l pre:List (K×Value)):Prop :=
 ∃ (zs b:List Z) (clock since c0:Nat),l=zs.map G6∧pre=b.map G6∧w.heap[r]?=some (.map (zs.map oM).toArray clock)∧w.heap[q]?=some (.mapIter (some r) since (b.map (·.2.2)).toArray c0)∧
  (∀ z∈zs,z.2.2<since)∧since≤c0∧since≤clock∧(zs.map (·.2.2)).Nodup∧(l.map (·.1)).Nodup∧(∀ y∈b,y∈zs)∧(b.map (·.2.2)).Nodup
theorem gB.map {w:World} {r q:Nat} {l pre:List (K×Value)} (h:gB w r q l pre):fY w r l:=by
 obtain ⟨zs,o,clock,since,c0,rfl,rfl,d,hq,hs,s,hc,i,hk,u,m⟩:=h
 refine ⟨_,clock,d,?_,?_,?_,hk⟩
 ·simp [oM,G6]
 ·intro e he
  simp at he
  obtain ⟨a,b,x,n,j,rfl⟩:=he
  have:=hs _ j
  simp [oM]
  simp at this
  omega
 ·simpa [oM,Function.comp_def] using i
theorem gB.frame {w w':World} {r q:Nat} {l pre:List (K×Value)} (h:gB w r q l pre) (d:w'.heap[r]?=w.heap[r]?) (hq:w'.heap[q]?=w.heap[q]?):gB w' r q l pre:=by
 obtain ⟨zs,i,clock,since,c0,h1,h2,j,b,r⟩:=h
 exact ⟨zs,i,clock,since,c0,h1,h2,d.trans j,hq.trans b,r⟩
theorem gB.lt {w:World} {r q:Nat} {l pre:List (K×Value)} (h:gB w r q l pre):r<w.heap.size∧q<w.heap.size:=by
 obtain ⟨zs,i,clock,since,c0,h1,h2,d,b,_⟩:=h
 exact ⟨fO d,fO b⟩
theorem gB.sub {w:World} {r q:Nat} {l pre:List (K×Value)} (h:gB w r q l pre):(∀ x∈pre,x∈l)∧(l.map (·.1)).Nodup∧(pre.map (·.1)).Nodup:=by
 obtain ⟨zs,u,clock,since,c0,rfl,rfl,d,hq,hs,D,hc,C,hk,j,m⟩:=h
 refine ⟨fun x B => ?_,hk,?_⟩
 ·obtain ⟨y,h1,rfl⟩:=aB.1 B
  exact aB.2 ⟨y,j y h1,rfl⟩
 ·have key:∀ a∈zs,∀ b∈zs,a.1=b.1→a=b:=by
   clear hs j m d hq C
   intro a ha b d e
   induction zs with
   | nil=>cases ha
   | cons z zs ih =>
    simp only [bq,dw] at hk
    rcases aP.1 ha with rfl | s
    ·rcases aP.1 d with rfl | o
     ·rfl
     ·refine absurd (aB.2 ⟨G6 b,aB.2 ⟨b,o,rfl⟩,?_⟩) hk.1
      exact e.symm
    ·rcases aP.1 d with rfl | o
     ·refine absurd (aB.2 ⟨G6 a,aB.2 ⟨a,s,rfl⟩,?_⟩) hk.1
      exact e
     ·exact ih hk.2 s o
  have i:u.Nodup:=by
   have:=dB.1 m
   exact this.imp (fun h e=>h (by rw [e]))
  rw [List.map_map]
  refine dB.2 ?_
  clear m hs hk d hq C
  induction u with
  | nil=>exact List.Pairwise.nil
  | cons y u ih =>
   rw [dw] at i
   refine List.Pairwise.cons (fun b d e => ?_) (ih (fun x B=>j x (aR _ B)) i.2)
   have:=key y (j y (by simp)) b (j b (aR _ d)) e
   exact i.1 (this▸d)
theorem Ga (i d:List Nat) (j:i.Nodup) (o:d.Nodup) (hs:∀ y∈d,y∈i):(i.filter fun b => !d.contains b).length+d.length=i.length:=by
 have q:(d++i.filter fun b => !d.contains b).Perm i:=by
  refine (db ?_ j).2 fun a => ?_
  ·refine cf.2 ⟨o,j.sublist List.filter_sublist,fun a ha b l e => ?_⟩
   subst e
   simp at l
   exact l.2 ha
  ·simp
   constructor
   ·rintro (h | h)
    ·exact hs a h
    ·exact h.1
   ·intro h
    by_cases m:a∈d
    ·exact .inl m
    ·exact .inr ⟨h,m⟩
 have:=q.length_eq
 rw [aq] at this
 omega
theorem ym (zs b:List Z):(leftOf (zs.map oM).toArray (b.map (·.2.2)).toArray).toList=(zs.filter fun z => !(b.map (·.2.2)).contains z.2.2).map oM:=by
 unfold leftOf
 rw [Array.toList_filter,List.filter_map]
 congr 1
 refine List.filter_congr fun z _ => ?_
 simp only [Function.comp,oM,List.contains_toArray]
theorem Az (zs:List Z) (p:Nat→Bool):((zs.filter fun z=>p z.2.2).map (·.2.2))=(zs.map (·.2.2)).filter p:=by
 rw [List.filter_map];rfl
theorem nA (w:World) (q:Nat) (o:Obj) {k:Nat} (h:k≠q):(setBlock w q o).heap[k]?=w.heap[k]?:=by
 simp [setBlock,dx h]
theorem gB.left {w:World} {r q:Nat} {l pre:List (K×Value)} (h:gB w r q l pre):w.rangeLeft r q+pre.length=l.length:=by
 obtain ⟨zs,d,clock,since,c0,rfl,rfl,i,hq,hs,u,hc,m,hk,o,j⟩:=h
 unfold World.rangeLeft
 rw [i,hq]
 simp only
 have e:=ym zs d
 have s:(leftOf (zs.map oM).toArray (d.map (·.2.2)).toArray).size=((zs.map (·.2.2)).filter fun b => !(d.map (·.2.2)).contains b).length:=by
  rw [←dh,e,aG,←Az,aG]
 rw [s]
 have:=Ga (zs.map (·.2.2)) (d.map (·.2.2)) m j (fun b i=>by
  obtain ⟨y,h1,rfl⟩:=aB.1 i
  exact aB.2 ⟨y,o y h1,rfl⟩)
 simp only [aG] at this⊢
 exact this
section
open Classical in
theorem gB.perm {w:World} {r q:Nat} {l pre:List (K×Value)} (h:gB w r q l pre) (hl:w.rangeLeft r q=0):pre.Perm l:=by
 have hlen:=h.left
 rw [hl,bG] at hlen
 obtain ⟨h1,h2,h3⟩:=h.sub
 have j:pre.Nodup:=(dB.1 h3).imp (fun h e=>h (by rw [e]))
 have i:l.Nodup:=(dB.1 h2).imp (fun h e=>h (by rw [e]))
 refine (db j i).2 fun a=>⟨h1 a,fun ha => ?_⟩
 refine et fun m => ?_
 have o:(a::pre).Nodup:=dw.2 ⟨m,j⟩
 have u:((a::pre)++l.filter fun b => !(a::pre).contains b).Perm l:=by
  refine (db ?_ i).2 fun b => ?_
  ·refine cf.2 ⟨o,i.sublist List.filter_sublist,fun x B y C e => ?_⟩
   subst e
   have d:=(ch.1 C).2
   rw [List.contains_iff_mem.2 B] at d
   cases d
  ·rw [bE,ch]
   constructor
   ·rintro (h | h)
    ·rcases aP.1 h with rfl | h
     ·exact ha
     ·exact h1 b h
    ·exact h.1
   ·intro h
    by_cases s:b∈a::pre
    ·exact .inl s
    ·exact .inr ⟨h,by
      cases hc:(a::pre).contains b with
      | true=>exact absurd (List.contains_iff_mem.1 hc) s
      | false=>rfl⟩
 have:=u.length_eq
 simp only [aq,ar] at this
 omega
end
section
variable {w:World} {r q:Nat} {l pre:List (K×Value)} {mt e:TypeId}
theorem fY.range (h:fY w r l) (j:Tryz.prog.underlying mt=some (.map 103 e)) :
  ∃ w',(Instr.range mt (.map (some r))).run Tryz.prog w = .ok (.pointer (some ⟨w.heap.size,0,none⟩)) w'∧gB w' r w.heap.size l []∧Below w.heap.size w w'∧w'.heap.size=w.heap.size+1:=by
 obtain ⟨es,clock,b,hl,hc,d,hk⟩:=h
 obtain ⟨zs,h1,h2⟩:=BN es.toList l hl
 have i:es=(zs.map oM).toArray:=by rw [←h1]
 have o:=fO b
 refine ⟨w.alloc (.mapIter (some r) clock #[] clock),?_,⟨zs,[],clock,clock,clock,h2,rfl,?_,fR w _,?_,af _,af _,?_,hk,(fun _ h=>by cases h),List.nodup_nil⟩,(Below.refl _ w).alloc (af _) _,by simp⟩
 ·simp [Instr.range,aL j,aK b,Result.andThen,newObj,Sem.run]
 ·rw [←i]
  exact fX w _ b
 ·intro z m
  exact hc (oM z) (by rw [h1];exact aB.2 ⟨z,m,rfl⟩)
 ·rw [h1,List.map_map] at d
  exact d
theorem gB.next (h:gB w r q l pre) (ty:TypeId) :
  (w.rangeLeft r q=0∧(Instr.next (.pointer (some ⟨q,0,none⟩)) false ty).run Tryz.prog w = .ok (.tuple #[.bool false]) w)∨
  ∃ (x:K×Value) (w':World),x∈l∧x.1∉pre.map (·.1)∧(Instr.next (.pointer (some ⟨q,0,none⟩)) false ty).run Tryz.prog w = .ok (.tuple #[.bool true,kV x.1,x.2]) w'∧gB w' r q l (pre++[x])∧w.grownBy w' (some q)∧w'.heap.size=w.heap.size∧
   (Instr.entry (.pointer (some ⟨q,0,none⟩))).run Tryz.prog w' = .ok (.tuple #[kV x.1,x.2]) w'∧r≠q:=by
 have V:=h
 obtain ⟨zs,d,clock,since,c0,rfl,rfl,j,hq,hs,Q,hc,I,hk,R,J⟩:=h
 have m:r≠q:=fun e=>by rw [e] at j;rw [j] at hq;cases hq
 have hold:∀ x∈((zs.map oM).toArray).toList,x.born<since:=by
  intro x S
  obtain ⟨z,D,rfl⟩:=aB.1 (show x∈zs.map oM from S)
  exact hs z D
 rcases run_next_at (P:=Tryz.prog) w ty q r since c0 (d.map (·.2.2)).toArray (zs.map oM).toArray clock hq j hold Q with ⟨h1,h2⟩ | ⟨e0,s,w1,i,E⟩
 ·left
  refine ⟨?_,h2⟩
  unfold World.rangeLeft
  rw [j,hq]
  exact h1
 ·right
  rw [ym] at s
  obtain ⟨z,D,rfl⟩:=aB.1 s
  obtain ⟨o,M⟩:=ch.1 D
  have F:z.2.2∉d.map (·.2.2):=by simpa using M
  have u:w1.heap[r]?=some (.map (zs.map oM).toArray clock):=by rcases i with rfl | rfl <;> exact j
  have B:w1.heap[q]?=some (.mapIter (some r) since (d.map (·.2.2)).toArray c0):=by rcases i with rfl | rfl <;> exact hq
  have N:gB (setBlock w1 q (.mapIter (some r) since ((d.map (·.2.2)).toArray.push z.2.2) clock)) r q (zs.map G6) (d.map G6++[G6 z]):=by
   refine ⟨zs,d++[z],clock,since,clock,rfl,by simp,?_,?_,hs,hc,hc,I,hk,?_,?_⟩
   ·rw [nA _ _ _ m];exact u
   ·rw [gj B];simp
   ·intro y O
    rcases bE.1 O with h | h
    ·exact R y h
    ·rw [ax.1 h];exact o
   ·rw [bm]
    refine cf.2 ⟨J,by simp,fun a ha b C e => ?_⟩
    simp at C
    exact F (by rw [←C,←e];exact ha)
  have U:w.grownBy (setBlock w1 q (.mapIter (some r) since ((d.map (·.2.2)).toArray.push z.2.2) clock)) (some q):=by
   rcases i with rfl | rfl
   ·exact ⟨rfl,rfl,rfl,by simp [setBlock],fun k _ hk=>nA _ _ _ (fun e=>hk (by rw [e]))⟩
   ·exact ⟨rfl,rfl,rfl,by simp [setBlock],fun k _ hk=>nA w.drew _ _ (fun e=>hk (by rw [e]))⟩
  refine ⟨G6 z,_,aB.2 ⟨z,o,rfl⟩,?_,E,N,U,?_,?_,m⟩
  ·have:=N.sub.2.2
   rw [bm,cf] at this
   intro G
   exact this.2.2 _ G _ (by simp) rfl
  ·rcases i with rfl | rfl <;> simp [setBlock]
  ·refine run_entry_at _ q r since (d.map (·.2.2)).toArray (zs.map oM).toArray clock (oM z) (gj B) ?_ (show oM z∈zs.map oM from aB.2 ⟨z,o,rfl⟩) ?_
   ·rw [nA _ _ _ m];exact u
   ·simpa [oM,Function.comp_def] using I
variable {ops:Array Oper} {rest:List Oper} {o:Oper} {a:Act} {Q:Exit→Act→World→Prop}
theorem kg (i:o.guard=none) (m:Operand) (d:o.op=Op.range mt m) (j:Tryz.prog.underlying mt=some (.map 103 e)) (hm:a.eval m = .map (some r)) (h:fY w r l)
  (hK:∀ w',gB w' r w.heap.size l []→Below w.heap.size w w'→w'.heap.size=w.heap.size+1→wpList Tryz.prog ops Q rest (a.put o.dst (.pointer (some ⟨w.heap.size,0,none⟩))) w') :
  wpList Tryz.prog ops Q (o::rest) a w:=by
 refine eK i fun s hK' => ?_
 obtain ⟨w',b,r1,r2,q⟩:=h.range j
 unfold Oper.wp
 simp [execOp,d,hm,b,Result.andThen]
 exact hK' _ _ (hK w' r1 r2 q)
theorem kK (E:o.guard=none) (it:Operand) (s:o.op=Op.next it false) (u:a.eval it = .pointer (some ⟨q,0,none⟩)) (h:gB w r q l pre)
  (j:pre.Perm l→wpList Tryz.prog ops Q rest (a.put o.dst (.tuple #[.bool false])) w)
  (m:∀ (b:Int) (d:List UInt8) (v:Value) (w':World),((b,d),v)∈l→(b,d)∉pre.map (·.1)→gB w' r q l (pre++[((b,d),v)])→w.grownBy w' (some q)→w'.heap.size=w.heap.size→
   (Instr.entry (.pointer (some ⟨q,0,none⟩))).run Tryz.prog w' = .ok (.tuple #[.agg #[.int .i64 b,.string ⟨d.toArray⟩],v]) w'→r≠q→wpList Tryz.prog ops Q rest (a.put o.dst (.tuple #[.bool true,.agg #[.int .i64 b,.string ⟨d.toArray⟩],v])) w') :
  wpList Tryz.prog ops Q (o::rest) a w:=by
 refine eK E fun J hK' => ?_
 unfold Oper.wp
 rcases h.next o.type with ⟨F,i⟩ | ⟨⟨⟨b,d⟩,v⟩,w',G,x,i,I,y,B,C,D⟩
 ·simp [execOp,s,u,i,Result.andThen]
  exact hK' _ _ (j (h.perm F))
 ·simp [execOp,s,u,i,Result.andThen]
  exact hK' _ _ (m b d v w' G x I y B C D)
variable {F:Fence} {nF:Nat}
theorem oF (j:o.guard=none) (m:Operand) (b:o.op=Op.range mt m) (q:Tryz.prog.underlying mt=some (.map 103 e)) (hm:a.eval m = .map (some r)) (h:fY w r l)
  (hK:∀ w',gB w' r w.heap.size l []→Below w.heap.size w w'→w'.heap.size=w.heap.size+1→wpListIn F nF Tryz.prog ops Q rest (a.put o.dst (.pointer (some ⟨w.heap.size,0,none⟩))) w') :
  wpListIn F nF Tryz.prog ops Q (o::rest) a w:=by
 refine wpListIn_plain j fun u hK' => ?_
 obtain ⟨w',d,r1,r2,s⟩:=h.range q
 unfold Oper.wpIn
 refine ⟨by simp [Oper.about,b],?_⟩
 rw [Oper.semAt_plain F _ _ (by rw [b];intro c i;cases i)]
 simp [execOp,b,hm,d,Result.andThen]
 exact hK' _ _ (hK w' r1 r2 s)
theorem o8 (G:o.guard=none) (it:Operand) (j:o.op=Op.next it false) (u:a.eval it = .pointer (some ⟨q,0,none⟩)) (h:gB w r q l pre)
  (m:pre.Perm l→wpListIn F nF Tryz.prog ops Q rest (a.put o.dst (.tuple #[.bool false])) w)
  (s:∀ (b:Int) (d:List UInt8) (v:Value) (w':World),((b,d),v)∈l→(b,d)∉pre.map (·.1)→gB w' r q l (pre++[((b,d),v)])→w.grownBy w' (some q)→w'.heap.size=w.heap.size→
   (Instr.entry (.pointer (some ⟨q,0,none⟩))).run Tryz.prog w' = .ok (.tuple #[.agg #[.int .i64 b,.string ⟨d.toArray⟩],v]) w'→r≠q→wpListIn F nF Tryz.prog ops Q rest (a.put o.dst (.tuple #[.bool true,.agg #[.int .i64 b,.string ⟨d.toArray⟩],v])) w') :
  wpListIn F nF Tryz.prog ops Q (o::rest) a w:=by
 refine wpListIn_plain G fun N hK' => ?_
 unfold Oper.wpIn
 refine ⟨by simp [Oper.about,j],?_⟩
 rw [Oper.semAt_plain F _ _ (by rw [j];intro c x;cases x)]
 rcases h.next o.type with ⟨I,i⟩ | ⟨⟨⟨b,d⟩,v⟩,w',J,y,i,M,B,C,D,E⟩
 ·simp [execOp,j,u,i,Result.andThen]
  exact hK' _ _ (m (h.perm I))
 ·simp [execOp,j,u,i,Result.andThen]
  exact hK' _ _ (s b d v w' J y M B C D E)
end
end Go.Proofs.YtkkfmkhbdoeglabGreatDoor
namespace Go.Proofs.YtkkfmkhbdoeglabGreatDoor
abbrev E:=K×List UInt8
def oa (a b:K):Bool:=decide (a.1<b.1) || (decide (a.1=b.1)&&decide (a.2<b.2))
theorem nt (a b:K):oa a b=true↔a.1<b.1∨(a.1=b.1∧a.2<b.2):=by simp [oa]
theorem rN (a:K):oa a a=false:=by
 cases h:oa a a with
 | false=>rfl
 | true =>
  rw [nt] at h
  rcases h with h | ⟨-,h⟩
  ·omega
  ·exact absurd h (eW _)
theorem nG {a b c:K} (h:oa a b=true) (k:oa b c=true):oa a c=true:=by
 rw [nt] at *
 rcases h with h | ⟨h1,h2⟩
 ·rcases k with k | ⟨i,d⟩
  ·exact .inl (by omega)
  ·exact .inl (by omega)
 ·rcases k with k | ⟨i,d⟩
  ·exact .inl (by omega)
  ·exact .inr ⟨by omega,List.lt_trans h2 d⟩
theorem lO {a b:K} (h:oa a b=true):oa b a=false:=by
 cases k:oa b a with
 | false=>rfl
 | true=>rw [←rN a,nG h k]
theorem rO {a b:K} (h:oa a b=true):a≠b:=fun e=>by rw [e,rN] at h;cases h
theorem vh (a b:K):oa a b=true∨a=b∨oa b a=true:=by
 rw [nt,nt]
 rcases dU a.1 b.1 with h | h | h
 ·exact .inl (.inl h)
 ·by_cases h1:a.2<b.2
  ·exact .inl (.inr ⟨h,h1⟩)
  ·by_cases h2:b.2<a.2
   ·exact .inr (.inr (.inr ⟨h.symm,h2⟩))
   ·exact .inr (.inl (Prod.ext h (List.le_antisymm (List.not_lt.1 h2) (List.not_lt.1 h1))))
 ·exact .inr (.inr (.inl h))
def SortedE (S:List E):Prop:=S.Pairwise fun x y=>oa x.1 y.1=true
theorem SortedE.nil:SortedE []:=List.Pairwise.nil
theorem SortedE.keys {S:List E} (h:SortedE S):(S.map (·.1)).Nodup:=dB.2 (h.imp fun h=>rO h)
theorem SortedE.nodup {S:List E} (h:SortedE S):S.Nodup:=List.Pairwise.imp (R:=fun x y:E=>oa x.1 y.1=true) (fun {a b} h (e:a=b)=>rO h (by rw [e])) h
theorem SortedE.ext:∀ {S T:List E},SortedE S→SortedE T→(∀ x,x∈S↔x∈T)→S=T
 | [],[],_,_,_=>rfl
 | [],y::T,_,_,h=>by have:=(h y).2 (by simp);cases this
 | x::S,[],_,_,h=>by have:=(h x).1 (by simp);cases this
 | x::S,y::T,q,r,h=>by
  obtain ⟨d,l⟩:=fC.1 q
  obtain ⟨i,m⟩:=fC.1 r
  have o:x=y:=by
   rcases aP.1 ((h x).1 (by simp)) with e | s
   ·exact e
   ·rcases aP.1 ((h y).2 (by simp)) with e | u
    ·exact e.symm
    ·have:=lO (i x s)
     rw [d y u] at this
     cases this
  subst o
  congr 1
  refine SortedE.ext l m fun z=>⟨fun b => ?_,fun b => ?_⟩
  ·rcases aP.1 ((h z).1 (aR _ b)) with e | j
   ·exact absurd e.symm (fun e=>rO (d z b) (by rw [e]))
   ·exact j
  ·rcases aP.1 ((h z).2 (aR _ b)) with e | j
   ·exact absurd e.symm (fun e=>rO (i z b) (by rw [e]))
   ·exact j
def ke (k:K) (v:List UInt8) (S:List E):List E:=S.filter (fun x=>oa x.1 k)++(k,v)::S.filter (fun x=>oa k x.1)
def ot (k:K) (S:List E):List E:=S.filter fun x => !(x.1==k)
def jB (k:K) (S:List E):Option (List UInt8):=(S.find? fun x=>k==x.1).map (·.2)
theorem sorted_put (k:K) (v:List UInt8) {S:List E} (h:SortedE S):SortedE (ke k v S):=by
 unfold ke SortedE
 rw [dS]
 refine ⟨h.filter _,fC.2 ⟨fun y b=>(ch.1 b).2,h.filter _⟩,fun x d y b => ?_⟩
 have h1:=(ch.1 d).2
 rcases aP.1 b with rfl | b
 ·exact h1
 ·exact nG h1 (ch.1 b).2
theorem lP (k:K) {S:List E} (h:SortedE S):SortedE (ot k S):=h.filter _
theorem jA (k:K) (v:List UInt8) (S:List E) (x:E):x∈ke k v S↔x=(k,v)∨(x∈S∧x.1≠k):=by
 unfold ke
 simp only [bE,ch,aP]
 constructor
 ·rintro (⟨h1,h2⟩ | h | ⟨h1,h2⟩)
  ·exact .inr ⟨h1,rO h2⟩
  ·exact .inl h
  ·exact .inr ⟨h1,(rO h2).symm⟩
 ·rintro (h | ⟨h1,h2⟩)
  ·exact .inr (.inl h)
  ·rcases vh x.1 k with h | h | h
   ·exact .inl ⟨h1,h⟩
   ·exact absurd h h2
   ·exact .inr (.inr ⟨h1,h⟩)
theorem mO (k:K) (S:List E) (x:E):x∈ot k S↔x∈S∧x.1≠k:=by
 unfold ot
 rw [ch]
 simp
theorem FP {l:List E} {k:K} {x:E} (h:l.find? (fun x=>k==x.1)=some x):x∈l∧x.1=k:=by
 refine ⟨List.mem_of_find?_eq_some h,?_⟩
 have:=List.find?_some h
 exact (a8.1 this).symm
theorem ow {S:List E} (h:(S.map (·.1)).Nodup) (k:K) (v:List UInt8):jB k S=some v↔(k,v)∈S:=by
 unfold jB
 constructor
 ·intro b
  obtain ⟨x,d,rfl⟩:=ck.1 b
  obtain ⟨h1,h2⟩:=FP d
  rw [←h2]
  exact h1
 ·intro hm
  induction S with
  | nil=>cases hm
  | cons y S ih =>
   rw [bq,dw] at h
   rw [dW]
   rcases aP.1 hm with rfl | hm
   ·simp
   ·have:(k==y.1)=false:=by
     rw [aA]
     exact fun e=>h.1 (e▸aB.2 ⟨_,hm,rfl⟩)
    rw [this]
    exact ih h.2 hm
theorem get_none {S:List E} (k:K):jB k S=none↔∀ x∈S,x.1≠k:=by
 unfold jB
 rw [Option.map_eq_none_iff,List.find?_eq_none]
 constructor
 ·intro h x b e
  exact h x b (by rw [a8,e])
 ·intro h x b e
  exact h x b (a8.1 e).symm
def ET (S:List E) (o:OpB):List E:=if o.kind=1 then ke (o.table,o.key) o.val S else ot (o.table,o.key) S
def foldS (S:List E) (os:List OpB):List E:=os.foldl ET S
theorem yC {S:List E} (o:OpB) (h:SortedE S):SortedE (ET S o):=by
 unfold ET
 split
 ·exact sorted_put _ _ h
 ·exact lP _ h
theorem oz:∀ {S:List E} (os:List OpB),SortedE S→SortedE (foldS S os)
 | _,[],h=>h
 | _,o::os,h=>oz os (yC o h)
theorem zg (S:List E) (os us:List OpB):foldS S (os++us)=foldS (foldS S os) us:=di
theorem CF (S:List E) (os:List OpB) (k:Nat) (h:k<os.length):foldS S (os.take (k+1))=ET (foldS S (os.take k)) os[k]:=by
 rw [aT h,zg]
 rfl
def countS (t:Int) (S:List E):Nat:=S.countP fun x=>decide (x.1.1=t)
def sizeS (S:List E):Nat:=(S.map fun x=>1+x.1.2.length+x.2.length).sum
end Go.Proofs.YtkkfmkhbdoeglabGreatDoor
namespace Go.Proofs.YtkkfmkhbdoeglabGreatDoor
open Go.RowKit Go.ChangeMaps
def kU (s:List UInt8):Value := .agg #[.string ⟨s.toArray⟩]
def zS (x:E):K×Value:=(x.1,kU x.2)
theorem GO {a b:List UInt8} (h:kU a=kU b):a=b:=by
 unfold kU at h
 simp only [Value.agg.injEq,Array.mk.injEq,fw,Value.string.injEq,ByteArray.mk.injEq,and_true] at h
 exact h
theorem I5 {x y:E} (h:zS x=zS y):x=y:=by
 unfold zS at h
 simp only [Prod.mk.injEq] at h
 exact Prod.ext h.1 (GO h.2)
def TabAt (w:World) (r:Nat) (S:List E):Prop:=SortedE S∧∃ L,fY w r L∧L.Perm (S.map zS)
theorem TabAt.sorted {w:World} {r:Nat} {S:List E} (h:TabAt w r S):SortedE S:=h.1
theorem TabAt.lt {w:World} {r:Nat} {S:List E} (h:TabAt w r S):r<w.heap.size:=h.2.elim fun _ h=>h.1.lt
theorem TabAt.gr {w w':World} {r:Nat} {S:List E} (h:TabAt w r S) (b:w'.heap[r]?=w.heap[r]?):TabAt w' r S:=by
 obtain ⟨hs,L,hm,d⟩:=h
 exact ⟨hs,L,hm.gr b,d⟩
theorem TabAt.new (w:World):TabAt (w.alloc (.map #[] 0)) w.heap.size []:=⟨SortedE.nil,[],fY.new w,List.Perm.refl _⟩
theorem qM (S:List E):(S.map zS).map (·.1)=S.map (·.1):=by rw [List.map_map];rfl
theorem pj {k:K} {v:Value} : ∀ {L:List (K×Value)},(L.map (·.1)).Nodup→(nE k L=some v↔(k,v)∈L)
 | [],_=>by simp [nE]
 | y::L,h=>by
  rw [bq,dw] at h
  unfold nE
  rw [dW]
  cases hk:(k==y.1) with
  | true =>
   rw [a8] at hk
   subst hk
   simp only [dX,eP,aP]
   constructor
   ·rintro rfl;exact .inl rfl
   ·rintro (e | hm)
    ·rw [←e]
    ·exact absurd (aB.2 ⟨_,hm,rfl⟩) h.1
  | false =>
   rw [aA] at hk
   have := @pj k v L h.2
   unfold nE at this
   simp only [this,aP]
   constructor
   ·exact .inr
   ·rintro (e | hm)
    ·exact absurd (by rw [←e]) hk
    ·exact hm
theorem DI {S:List E} {L:List (K×Value)} (hs:SortedE S) (d:(L.map (·.1)).Nodup) (i:L.Perm (S.map zS)) (k:K):nE k L=(jB k S).map kU:=by
 cases b:jB k S with
 | some v =>
  rw [ow hs.keys] at b
  exact (pj d).2 (i.mem_iff.2 (aB.2 ⟨_,b,rfl⟩))
 | none =>
  rw [get_none] at b
  cases ha:nE k L with
  | none=>rfl
  | some v =>
   rw [pj d,i.mem_iff] at ha
   obtain ⟨x,j,e⟩:=aB.1 ha
   exact absurd (aZ Prod.fst e) (b x j)
theorem qO {l:List K} (h:l.Nodup) {i j:Nat} (b:i<l.length) (d:j<l.length) (e:l[i]=l[j]):i=j :=
 (List.getElem?_inj b h).1 (by rw [ay b,ay d,e])
theorem qt (k:K) (v:Value) {L:List (K×Value)} (r:(L.map (·.1)).Nodup) (x:K×Value):x∈mS k v L↔x=(k,v)∨(x∈L∧x.1≠k):=by
 unfold mS
 cases m:gN k L 0 with
 | none =>
  have ha:=iM k L 0 m
  simp only [bE,ax]
  constructor
  ·rintro (h | h)
   ·exact .inr ⟨h,ha x h⟩
   ·exact .inl h
  ·rintro (h | h)
   ·exact .inr h
   ·exact .inl h.1
 | some y =>
  obtain ⟨j,u⟩:=y
  obtain ⟨-,o⟩:=jI k L 0 j u m
  rw [cJ] at o
  obtain ⟨d,l⟩:=aF.1 o
  simp only
  constructor
  ·intro h
   obtain ⟨i,b,e⟩:=cF h
   rw [List.getElem_set] at e
   rw [bW] at b
   split at e
   ·exact .inl e.symm
   ·rename_i q
    refine .inr ⟨e▸cD b,fun hk=>q ?_⟩
    have h1:(L.map (·.1))[j]'(by simpa using d)=k:=by simp [l]
    have h2:(L.map (·.1))[i]'(by simpa using b)=k:=by simp [e,hk]
    exact qO r _ _ (h1.trans h2.symm)
  ·rintro (h | ⟨h1,h2⟩)
   ·rw [h]
    exact aV (i:=j) (by rw [dZ d])
   ·obtain ⟨i,b,rfl⟩:=cF h1
    refine aV (i:=i) ?_
    rw [ew (fun e=>h2 (by subst e;rw [l])),ay b]
theorem Ep (k:K) {L:List (K×Value)} (r:(L.map (·.1)).Nodup) (x:K×Value):x∈vU k L↔x∈L∧x.1≠k:=by
 unfold vU
 cases l:gN k L 0 with
 | none =>
  have ha:=iM k L 0 l
  exact ⟨fun h=>⟨h,ha x h⟩,fun h=>h.1⟩
 | some y =>
  obtain ⟨j,u⟩:=y
  obtain ⟨-,m⟩:=jI k L 0 j u l
  rw [cJ] at m
  obtain ⟨o,d⟩:=aF.1 m
  simp only
  rw [List.mem_eraseIdx_iff_getElem]
  constructor
  ·rintro ⟨i,b,q,e⟩
   refine ⟨e▸cD b,fun hk=>q ?_⟩
   have h1:(L.map (·.1))[j]'(by simpa using o)=k:=by simp [d]
   have h2:(L.map (·.1))[i]'(by simpa using b)=k:=by simp [e,hk]
   exact (qO r _ _ (h1.trans h2.symm)).symm
  ·rintro ⟨h1,h2⟩
   obtain ⟨i,b,rfl⟩:=cF h1
   exact ⟨i,b,fun e=>h2 (by subst e;rw [d]),rfl⟩
theorem ru {L:List (K×Value)} (h:(L.map (·.1)).Nodup):L.Nodup:=(dB.1 h).imp fun h e=>h (by rw [e])
section
open Classical in
theorem uA {L M:List (K×Value)} (hl:(L.map (·.1)).Nodup) (hm:(M.map (·.1)).Nodup) (h:∀ x,x∈L↔x∈M):L.Perm M :=
 (db (ru hl) (ru hm)).2 h
end
theorem fY.keys {w:World} {r:Nat} {L:List (K×Value)} (h:fY w r L):(L.map (·.1)).Nodup:=by
 obtain ⟨_,_,_,_,_,_,hk⟩:=h
 exact hk
section
variable {w:World} {r:Nat} {S:List E} {mt e:TypeId}
theorem TabAt.put (h:TabAt w r S) (j:Tryz.prog.underlying mt=some (.map 103 e)) (k:K) (v:List UInt8) :
  ∃ b,(∀ n,(Instr.mapUpdate mt (.map (some r)) (kV k) (kU v)).run Tryz.prog (w.drewN n) = .ok () (b.drewN n))∧TabAt b r (ke k v S)∧w.grownBy b (some r)∧b.heap.size=w.heap.size:=by
 obtain ⟨hs,L,hm,l⟩:=h
 obtain ⟨b,h1,h2,h3,h4⟩:=hm.update j k (kU v)
 refine ⟨b,h1,⟨sorted_put k v hs,_,h2,uA h2.keys (by rw [qM];exact (sorted_put k v hs).keys) fun x => ?_⟩,h3,h4⟩
 rw [qt k _ hm.keys,l.mem_iff,aB,aB]
 constructor
 ·rintro (rfl | ⟨⟨y,d,rfl⟩,i⟩)
  ·exact ⟨(k,v),(jA k v S _).2 (.inl rfl),rfl⟩
  ·exact ⟨y,(jA k v S _).2 (.inr ⟨d,i⟩),rfl⟩
 ·rintro ⟨y,d,rfl⟩
  rcases (jA k v S _).1 d with rfl | ⟨h1,h2⟩
  ·exact .inl rfl
  ·exact .inr ⟨⟨y,h1,rfl⟩,h2⟩
theorem TabAt.drop (h:TabAt w r S) (j:Tryz.prog.underlying mt=some (.map 103 e)) (k:K) (t2 ty:TypeId) :
  ∃ b,(∀ n,(Builtin.delete_ #[mt,t2] ty #[.map (some r),kV k]).run Tryz.prog (w.drewN n) = .ok (.tuple #[]) (b.drewN n))∧TabAt b r (ot k S)∧w.grownBy b (some r)∧b.heap.size=w.heap.size:=by
 obtain ⟨hs,L,hm,l⟩:=h
 obtain ⟨b,h1,h2,h3,h4⟩:=hm.delete j k t2 ty
 refine ⟨b,h1,⟨lP k hs,_,h2,uA h2.keys (by rw [qM];exact (lP k hs).keys) fun x => ?_⟩,h3,h4⟩
 rw [Ep k hm.keys,l.mem_iff,aB,aB]
 constructor
 ·rintro ⟨⟨y,d,rfl⟩,i⟩
  exact ⟨y,(mO k S _).2 ⟨d,i⟩,rfl⟩
 ·rintro ⟨y,d,rfl⟩
  obtain ⟨h1,h2⟩:=(mO k S _).1 d
  exact ⟨⟨y,h1,rfl⟩,h2⟩
theorem TabAt.kT (h:TabAt w r S) (b:Tryz.prog.underlying mt=some (.map 103 e)) (d:(zeroValue e).run Tryz.prog w = .ok (kU []) w) (k:K) :
  (Instr.lookup mt (.map (some r)) (kV k) true).run Tryz.prog w = .ok (.tuple #[kU ((jB k S).getD []),.bool (jB k S).isSome]) w:=by
 obtain ⟨hs,L,hm,i⟩:=h
 rw [hm.kT b d k,DI hs hm.keys i]
 cases jB k S <;> rfl
theorem TabAt.lookup (h:TabAt w r S) (b:Tryz.prog.underlying mt=some (.map 103 e)) (d:(zeroValue e).run Tryz.prog w = .ok (kU []) w) (k:K) :
  (Instr.lookup mt (.map (some r)) (kV k) false).run Tryz.prog w = .ok (kU ((jB k S).getD [])) w:=by
 obtain ⟨hs,L,hm,i⟩:=h
 rw [hm.lookup b d k,DI hs hm.keys i]
 cases jB k S <;> rfl
end
theorem kH {l:List E} (h:((l.map zS).map (·.1)).Nodup):l.Nodup:=by
 rw [qM] at h
 exact (dB.1 h).imp (fun h e=>h (by rw [e]))
theorem tH {x:E} {l:List E} (h:zS x∈l.map zS):x∈l:=by
 obtain ⟨y,b,e⟩:=aB.1 h
 rw [←I5 e]
 exact b
theorem qS {l S:List E} (hl:l.Nodup) (d:S.Nodup) (h:(l.map zS).Perm (S.map zS)):l.Perm S :=
 (db hl d).2 fun x=>⟨fun b=>tH (h.mem_iff.1 (aB.2 ⟨x,b,rfl⟩)),fun b=>tH (h.mem_iff.2 (aB.2 ⟨x,b,rfl⟩))⟩
theorem uf (t:Int) (l:List E) (x:E):countS t (l++[x])=countS t l+if x.1.1=t then 1 else 0:=by
 unfold countS
 rw [List.countP_append,dg,List.countP_nil]
 simp
theorem ue (t:Int) {l m:List E} (h:l.Perm m):countS t l=countS t m:=h.countP_eq _
theorem rM {l m:List E} (b:l.Nodup) (h:∀ x∈l,x∈m):l.length≤m.length:=by
 classical
 induction l generalizing m with
 | nil=>exact aM _
 | cons x l ih =>
  rw [dw] at b
  have i:=(List.perm_cons_erase (h x (by simp))).length_eq
  have:=ih (m:=m.erase x) b.2 (fun y d=>(List.mem_erase_of_ne (fun e=>b.1 (by rw [←e];exact d))).2 (h y (aR _ d)))
  simp only [ar] at i⊢
  omega
end Go.Proofs.YtkkfmkhbdoeglabGreatDoor
