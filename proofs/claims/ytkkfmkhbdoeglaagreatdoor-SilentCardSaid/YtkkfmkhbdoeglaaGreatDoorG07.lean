/- A part of what is proved here: lemmas and contracts of single functions. No condition but those that each names. -/
import Derived.Test.YtkkfmkhbdoeglaaGreatDoorG00
import Derived.Maps.OwnIn
import Derived.Test.YtkkfmkhbdoeglaaGreatDoorG02
import Derived.Test.YtkkfmkhbdoeglaaGreatDoorG04
import Derived.Test.YtkkfmkhbdoeglaaGreatDoorG05
import Derived.Test.YtkkfmkhbdoeglaaGreatDoorG06
namespace Go.Proofs.YtkkfmkhbdoeglaaGreatDoor
open Go.RowKit
def Cu.op (cu:Cu) (b:List K):Cu×OpB :=
 match (cu.take 2).2 with
 | [x,y] =>
  let C:=((cu.take 2).1.ja (x.toNat==1 || x.toNat==2) 6).ja (decide (y.toNat<3)) 6
  match C.f with
  | some _=>(C,⟨x.toNat,y.toNat,[],[]⟩)
  | none=>C.kW x.toNat y.toNat b (fB y.toNat) (fO y.toNat)
 | _=>(cu,⟨0,0,[],[]⟩)
theorem Gf (base c r:Nat) (cu:Cu) (b:List K) (w:World) (h:CurAt w base c cu) (hm:gw w r b) (q:ShapesVar w) (d:2≤base) (o:base≤w.heap.size) (j:c<r) :
  Calls Tryz.prog 144 #[.pointer (some ⟨c,0,none⟩),.map (some r)] w fun e w'=>e = .returned (xg (cu.op b).2)∧CurAt w' base c (cu.op b).1∧((cu.op b).1.f=none→gw w' r (b++[((cu.op b).2.table,(cu.op b).2.key)]))∧Ext (fun i=>i=c∨i=r) w w':=by
 obtain ⟨x,y,l⟩:=te (Cu.take_length cu 2)
 unfold Cu.op
 rw [l]
 simp only
 cases B:((((cu.take 2).1.ja (x.toNat==1 || x.toNat==2) 6).ja (decide (y.toNat<3)) 6)).f with
 | some z =>
  simp only
  refine (Gm base c r cu x y _ _ w h o l ?_ ?_ (by rw [B];simp)).mono fun e w' ⟨h1,h2,h3⟩=>⟨h1,h2,fun k=>absurd (B.symm.trans k) (by simp),⟨h3.os,h3.tape,h3.output,h3.size,fun k hk hs=>h3.block k hk (fun e=>hs (.inl (by cases e;rfl)))⟩⟩
  ·by_cases h1:x.toNat<1
   ·exact .inl ⟨h1,by rw [eI,aC,aC];omega⟩
   ·by_cases h2:x.toNat<2
    ·exact .inr (.inl ⟨by omega,h2,by rw [dE,bf,bf];omega⟩)
    ·by_cases h3:x.toNat<3
     ·exact .inr (.inr (.inl ⟨by omega,h3,by rw [dE,bf,bf];omega⟩))
     ·exact .inr (.inr (.inr ⟨by omega,by rw [eI,aC,aC];omega⟩))
  ·by_cases h1:y.toNat<3
   ·exact .inl ⟨h1,cQ h1⟩
   ·exact .inr ⟨by omega,cA h1⟩
 | none =>
  simp only
  have C:=Cu.qy B
  have m:=Cu.qy C.1
  rw [m.2,C.2,Cu.mq,Cu.mq]
  have s:y.toNat<3:=dM C.2
  have u:x.toNat=1∨x.toNat=2:=by simpa using m.2
  have D:y.toNat=0∨y.toNat=1∨y.toNat=2:=by omega
  rcases u with u | u <;> rcases D with s | s | s <;> rw [u,s]
  ·exact F4 0 6 4 (.inl ⟨rfl,rfl,rfl⟩) base c r cu x y b w h hm q d o j l (by omega) (by omega) m.1
  ·exact F4 1 5 4 (.inr (.inl ⟨rfl,rfl,rfl⟩)) base c r cu x y b w h hm q d o j l (by omega) (by omega) m.1
  ·exact F4 2 2 2 (.inr (.inr ⟨rfl,rfl,rfl⟩)) base c r cu x y b w h hm q d o j l (by omega) (by omega) m.1
  ·exact Gl 0 6 4 (.inl ⟨rfl,rfl,rfl⟩) base c r cu x y b w h hm q d o j l (by omega) (by omega) m.1
  ·exact Gl 1 5 4 (.inr (.inl ⟨rfl,rfl,rfl⟩)) base c r cu x y b w h hm q d o j l (by omega) (by omega) m.1
  ·exact Gl 2 2 2 (.inr (.inr ⟨rfl,rfl,rfl⟩)) base c r cu x y b w h hm q d o j l (by omega) (by omega) m.1
end Go.Proofs.YtkkfmkhbdoeglaaGreatDoor
namespace Go.Proofs.YtkkfmkhbdoeglaaGreatDoor
open Go.RowKit
def ik:Nat→Cu→List K→List OpB→Cu×List OpB
 | 0,c,_,os=>(c,os)
 | n+1,c,b,os =>
  match c.f with
  | some _=>(c,os)
  | none=>ik n (c.op b).1 (b++[((c.op b).2.table,(c.op b).2.key)]) (os++[(c.op b).2])
def oU (l:List UInt8):(Nat×List OpB)⊕(Nat×Nat) :=
 let a:=Cu.take ⟨l,0,0,none⟩ 8
 let b:=(a.1.ja (isVersionB (iw a.2)) 4).take 1
 let n:=(b.2.headD 0).toNat
 let L:=ik n (b.1.ja (decide (1≤n)&&decide (n≤8)) 5) [] []
 match L.1.ended.f with
 | some f => .inr f
 | none => .inl (iw a.2,L.2)
end Go.Proofs.YtkkfmkhbdoeglaaGreatDoor
namespace Go.Proofs.YtkkfmkhbdoeglaaGreatDoor
open Go.RowKit
def oQ (o:OpB):Bool:=if o.kind=2 then o.val==[] else gi o.table o.val
def gX (o:OpB) (ahead:List K):Nat :=
 if o.kind<1∨2<o.kind∨o.table<0∨2<o.table then 6
 else if gR o.table o.key=false then 7
 else if ahead.contains (o.table,o.key)=true then 8
 else if oQ o=false then 9
 else 0
def fJ:Nat→List K→List OpB→Option (Nat×Nat)
 | _,_,[]=>none
 | i,b,o::os=>if gX o b=0 then fJ (i+1) (b++[(o.table,o.key)]) os else some (gX o b,i)
def gE (v:Nat) (os:List OpB):Option (Nat×Nat) :=
 if isVersionB v=false then some (4,0)
 else if os.length<1∨8<os.length then some (5,0)
 else fJ 0 [] os
def gA (o:OpB):List UInt8:=UInt8.ofNat o.kind.toNat::UInt8.ofNat o.table.toNat::(o.key++o.val)
def iG (v:Nat) (os:List OpB):List UInt8:=j4 v++UInt8.ofNat os.length::os.flatMap gA
def jY (s:List UInt8) (at':Nat) (b:List K):(OpB×Nat)⊕(Nat×Nat) :=
 match s.drop at' with
 | x::y::r =>
  if x.toNat<1∨2<x.toNat∨2<y.toNat then .inr (6,at')
  else if r.length<fB y.toNat then .inr (1,at'+2)
  else if gR y.toNat (r.take (fB y.toNat))=false then .inr (7,at'+2)
  else if b.contains ((y.toNat:Int),r.take (fB y.toNat))=true then .inr (8,at'+2)
  else if x.toNat=2 then .inl (⟨2,y.toNat,r.take (fB y.toNat),[]⟩,at'+2+fB y.toNat)
  else if r.length<fB y.toNat+fO y.toNat then .inr (1,at'+2+fB y.toNat)
  else if gi y.toNat ((r.drop (fB y.toNat)).take (fO y.toNat))=false then .inr (9,at'+2+fB y.toNat)
  else .inl (⟨1,y.toNat,r.take (fB y.toNat),(r.drop (fB y.toNat)).take (fO y.toNat)⟩,at'+2+fB y.toNat+fO y.toNat)
 | _ => .inr (1,at')
def iF (s:List UInt8):Nat→Nat→List K→List OpB→(Nat×List OpB)⊕(Nat×Nat)
 | 0,at',_,os => .inl (at',os)
 | n+1,at',b,os =>
  match jY s at' b with
  | .inr f => .inr f
  | .inl (o,to)=>iF s n to (b++[(o.table,o.key)]) (os++[o])
def kS (s:List UInt8):(Nat×List OpB)⊕(Nat×Nat) :=
 if s.length<8 then .inr (1,0)
 else if isVersionB (iw (s.take 8))=false then .inr (4,0)
 else if s.length<9 then .inr (1,8)
 else if ((s.drop 8).headD 0).toNat<1∨8<((s.drop 8).headD 0).toNat then .inr (5,8)
 else match iF s ((s.drop 8).headD 0).toNat 9 [] [] with
  | .inr f => .inr f
  | .inl (at',os)=>if at'<s.length then .inr (2,at') else .inl (iw (s.take 8),os)
theorem Cu.gM (l:List UInt8) (a to n:Nat):(⟨l,a,to,none⟩:Cu).take n=if l.length<to+n then (⟨l,a,to,some (1,to)⟩,List.replicate n 0) else (⟨l,to,to+n,none⟩,(l.drop to).take n):=rfl
theorem Cu.jt (l:List UInt8) (a to n:Nat) (f:Nat×Nat):(⟨l,a,to,some f⟩:Cu).take n=(⟨l,a,to,some f⟩,List.replicate n 0):=rfl
theorem Cu.iH (l:List UInt8) (a to k:Nat) (ok:Bool):(⟨l,a,to,none⟩:Cu).ja ok k=if ok=true then ⟨l,a,to,none⟩ else ⟨l,a,to,some (k,a)⟩:=rfl
theorem Cu.iu (l:List UInt8) (a to k:Nat) (ok:Bool) (f:Nat×Nat):(⟨l,a,to,some f⟩:Cu).ja ok k=⟨l,a,to,some f⟩:=rfl
theorem drop2 {l:List UInt8} {to:Nat} {x y:UInt8} {r:List UInt8} (h:l.drop to=x::y::r):l.drop (to+2)=r∧l.length=to+2+r.length:=by
 have h1:(l.drop to).drop 2=r:=by rw [h];rfl
 rw [cK] at h1
 have h2:=bG List.length h
 rw [cd,ar,ar] at h2
 exact ⟨h1,by omega⟩
theorem Cu.Cs (l:List UInt8) (a to:Nat) (m:List K) :
  match jY l to m with
  | .inr f=>((⟨l,a,to,none⟩:Cu).op m).1.f=some f
  | .inl (o,s)=>∃ D,(⟨l,a,to,none⟩:Cu).op m=(⟨l,D,s,none⟩,o)∧s≤l.length:=by
 unfold jY
 match h:l.drop to with
 | [] =>
  have:l.length<to+2:=by have:=bG List.length h;simp at this;omega
  simp [Cu.op,Cu.gM,this,List.replicate,Cu.iu]
 | [x] =>
  have:l.length<to+2:=by have:=bG List.length h;simp at this;omega
  simp [Cu.op,Cu.gM,this,List.replicate,Cu.iu]
 | x::y::r =>
  obtain ⟨hd,hl⟩:=drop2 h
  have E:¬l.length<to+2:=by omega
  have b:((x.toNat==1 || x.toNat==2)=true∧y.toNat<3)↔¬(x.toNat<1∨2<x.toNat∨2<y.toNat):=by
   simp only [dE,bf];omega
  simp only [Cu.op,Cu.gM,E,cX,h,bj,bY]
  by_cases q:x.toNat<1∨2<x.toNat∨2<y.toNat
  ·rw [aB q]
   have:=mt b.1 (fun e=>e q)
   by_cases h1:(x.toNat==1 || x.toNat==2)=true
   ·have h2:¬y.toNat<3:=fun e=>this ⟨h1,e⟩
    simp [Cu.iH,h1,h2]
   ·simp [Cu.iH,h1,Cu.iu]
  ·rw [au q]
   obtain ⟨h1,h2⟩:=b.2 q
   simp only [Cu.iH,h1,h2,decide_true,dF,Cu.kW,Cu.gM,hl]
   by_cases hs:r.length<fB y.toNat
   ·have d:to+2+r.length<to+2+fB y.toNat:=by omega
    simp only [hs,d,dF,Cu.iu,Cu.jt]
    split <;> rfl
   ·have d:¬to+2+r.length<to+2+fB y.toNat:=by omega
    simp only [hs,d,cX,hd,Cu.iH]
    cases hk:gR (y.toNat:Int) (r.take (fB y.toNat)) with
    | false =>
     simp only [dF,dZ,cX,Cu.iu,Cu.jt]
     split <;> rfl
    | true =>
     simp only [dH,cX,dF,Cu.iH]
     cases hc:m.contains ((y.toNat:Int),r.take (fB y.toNat)) with
     | true =>
      simp only [dF,Bool.not_true,dZ,cX,Cu.iu,Cu.jt]
      split <;> rfl
     | false =>
      simp only [Bool.not_false,dZ,cX,dF]
      by_cases i:x.toNat=2
      ·have:¬(x.toNat:Int)=1:=by omega
       rw [aB i,au this]
       exact ⟨_,by rw [i];rfl,by omega⟩
      ·have u:(x.toNat:Int)=1:=by omega
       rw [au i,aB u]
       simp only [Cu.gM,hl]
       by_cases B:r.length<fB y.toNat+fO y.toNat
       ·have j:to+2+r.length<to+2+fB y.toNat+fO y.toNat:=by omega
        simp only [B,j,dF,Cu.iu]
       ·have j:¬to+2+r.length<to+2+fB y.toNat+fO y.toNat:=by omega
        have C:l.drop (to+2+fB y.toNat)=r.drop (fB y.toNat):=by rw [←hd,cK]
        simp only [B,j,cX,C,Cu.iH]
        cases F:gi (y.toNat:Int) ((r.drop (fB y.toNat)).take (fO y.toNat)) with
        | false=>simp only [dF,dZ,cX]
        | true =>
         simp only [dH,cX,dF]
         exact ⟨_,by rw [u],by omega⟩
theorem rk (n:Nat) (c:Cu) (b:List K) (os:List OpB) (f:Nat×Nat) (h:c.f=some f):(ik n c b os).1=c:=by
 cases n with
 | zero=>rfl
 | succ n=>unfold ik;rw [h]
theorem oM (l:List UInt8):∀ (n a to:Nat) (b:List K) (os:List OpB),to≤l.length→
  match iF l n to b os with
  | .inr f=>(ik n ⟨l,a,to,none⟩ b os).1.f=some f
  | .inl (d,m)=>∃ j,ik n ⟨l,a,to,none⟩ b os=(⟨l,j,d,none⟩,m)∧d≤l.length
 | 0,a,to,b,os,h=>⟨a,rfl,h⟩
 | n+1,a,to,b,os,h=>by
  have hc:=Cu.Cs l a to b
  unfold iF
  cases i:jY l to b with
  | inr f =>
   rw [i] at hc
   simp only at hc⊢
   unfold ik
   simp only
   rw [rk n _ _ _ f hc]
   exact hc
  | inl x =>
   obtain ⟨o,d⟩:=x
   rw [i] at hc
   obtain ⟨j,he,hle⟩:=hc
   simp only
   have ih:=oM l n j d (b++[(o.table,o.key)]) (os++[o]) hle
   unfold ik
   simp only [he]
   exact ih
theorem nP (l:List UInt8):oU l=kS l:=by
 unfold oU kS
 by_cases h8:l.length<8
 ·have b:l.length<0+8:=by omega
  simp [Cu.gM,h8,Cu.iu,Cu.jt,List.replicate,ik,Cu.ended]
 ·have b:¬l.length<0+8:=by omega
  simp only [Cu.gM,h8,cX,cw,bE,Cu.iH]
  cases o:isVersionB (iw (l.take 8)) with
  | false=>simp [Cu.jt,Cu.iu,List.replicate,ik,Cu.ended]
  | true =>
   simp only [dF,dH,cX,Cu.gM]
   by_cases h9:l.length<9
   ·have d:l.length<8+1:=h9
    simp [h9,Cu.iu,List.replicate,ik,Cu.ended]
   ·have d:¬l.length<8+1:=h9
    have i:((l.drop 8).take 1).headD 0=(l.drop 8).headD 0:=by
     cases l.drop 8 <;> rfl
    simp only [h9,cX,i,Cu.iH]
    generalize ((l.drop 8).headD 0).toNat=n
    by_cases j:n<1∨8<n
    ·have:¬((decide (1≤n)&&decide (n≤8))=true):=by simp;omega
     rw [au this,aB j]
     cases n with
     | zero=>rfl
     | succ n=>rfl
    ·have:(decide (1≤n)&&decide (n≤8))=true:=by simp;omega
     rw [aB this,au j]
     have hd:=oM l n 8 9 [] [] (by omega)
     cases hc:iF l n 9 [] [] with
     | inr f =>
      rw [hc] at hd
      simp only at hd⊢
      simp [Cu.ended,hd]
     | inl x =>
      obtain ⟨to,os⟩:=x
      rw [hc] at hd
      obtain ⟨q,he,hle⟩:=hd
      simp only [he,Cu.ended]
      by_cases m:to<l.length <;> simp [m]
theorem jm {t:Int} {k:List UInt8} (h:gR t k=true):k.length=fB t :=
 Decidable.byContradiction fun b=>by rw [uU b] at h;cases h
theorem iL {t:Int} {k:List UInt8} (b:0≤t) (h2:t<3) (h:gi t k=true):k.length=fO t :=
 Decidable.byContradiction fun d=>by rw [qS b h2 d] at h;cases h
theorem l6 {o:OpB} {b:List K} (h:gX o b=0) :
  (o.kind=1∨o.kind=2)∧0≤o.table∧o.table<3∧gR o.table o.key=true∧b.contains (o.table,o.key)=false∧oQ o=true:=by
 unfold gX at h
 split at h
 ·cases h
 ·split at h
  ·cases h
  ·split at h
   ·cases h
   ·split at h
    ·cases h
    ·rename_i h1 h2 h3 h4
     exact ⟨by omega,by omega,by omega,(by simpa using h2),Bool.not_eq_true _▸h3,(by simpa using h4)⟩
theorem kD {o:OpB} {b:List K} (h1:o.kind=1∨o.kind=2) (h2:0≤o.table) (h3:o.table<3) (h4:gR o.table o.key=true) (h5:b.contains (o.table,o.key)=false) (h6:oQ o=true):gX o b=0:=by
 unfold gX
 rw [au (by omega),h4,au (by decide),h5,au (by decide),h6,au (by decide)]
theorem rR {s:List UInt8} {at' to:Nat} {j:List K} {o:OpB} (h:jY s at' j = .inl (o,to)) :
  gX o j=0∧s.drop at'=gA o++s.drop to∧to=at'+(gA o).length:=by
 unfold jY at h
 split at h
 ·rename_i x y r hd
  obtain ⟨b,hl⟩:=drop2 hd
  split at h
  ·cases h
  ·rename_i C
   split at h
   ·cases h
   ·rename_i u
    split at h
    ·cases h
    ·rename_i hk
     split at h
     ·cases h
     ·rename_i hc
      have d:gR (y.toNat:Int) (r.take (fB y.toNat))=true:=by simpa using hk
      have i:j.contains ((y.toNat:Int),r.take (fB y.toNat))=false:=by simpa using hc
      have hlen:(r.take (fB y.toNat)).length=fB y.toNat:=by rw [aD];omega
      split at h
      ·rename_i h2
       cases h
       refine ⟨kD (.inr rfl) (by simp only;omega) (by simp only;omega) d i rfl,?_,by simp only [gA,ar,aq,hlen,aM];omega⟩
       rw [hd,←cK,b]
       have l:UInt8.ofNat (2:Int).toNat=x:=by rw [←eh];simp [h2]
       simp only [gA,l,UInt8.ofNat_toNat,dN,cZ,aV,cU]
      ·rename_i h2
       split at h
       ·cases h
       ·rename_i B
        split at h
        ·cases h
        ·rename_i q
         cases h
         have m:gi (y.toNat:Int) ((r.drop (fB y.toNat)).take (fO y.toNat))=true:=by simpa using q
         have h1:x.toNat=1:=by omega
         refine ⟨kD (.inl rfl) (by simp only;omega) (by simp only;omega) d i m,?_,by simp only [gA,ar,aq,hlen,aD,cd];omega⟩
         rw [hd,←cK,←cK,b]
         have l:UInt8.ofNat (1:Int).toNat=x:=by rw [←eh];simp [h1]
         simp only [gA,l,UInt8.ofNat_toNat,dN,aV,bq,cU]
 ·cases h
theorem mG {o:OpB} : (gA o).length=2+o.key.length+o.val.length:=by
 simp [gA];omega
theorem AG {s t:List UInt8} {at':Nat} {i:List K} {o:OpB} (h:gX o i=0) (hs:s.drop at'=gA o++t) :
  jY s at' i = .inl (o,at'+(gA o).length):=by
 obtain ⟨h1,h2,h3,h4,h5,h6⟩:=l6 h
 obtain ⟨j,T,k,v⟩:=o
 simp only at h1 h2 h3 h4 h5 h6
 have b:=jm h4
 obtain ⟨y,l⟩:∃ y:UInt8,(y.toNat:Int)=T:=⟨UInt8.ofNat T.toNat,by simp;omega⟩
 have m:UInt8.ofNat T.toNat=y:=by rw [←l];simp
 rw [mG]
 unfold jY
 simp only [gA,aV,bq] at hs
 rw [hs,m]
 simp only
 have q:(k++(v++t)).take (fB T)=k:=by rw [←b,dY]
 have r:(k++(v++t)).drop (fB T)=v++t:=by rw [←b,ew]
 rw [l,q,r]
 have x:(UInt8.ofNat j.toNat).toNat=j.toNat:=by simp;omega
 rw [x,au (by omega),au (by simp [b]),h4,au (by decide),h5,au (by decide)]
 rcases h1 with rfl | rfl
 ·rw [au (by decide)]
  have h6:gi T v=true:=h6
  have d:=iL h2 h3 h6
  have u:(v++t).take (fO T)=v:=by rw [←d,dY]
  rw [u,au (by simp [b,d]),h6,au (by decide)]
  rw [b,d]
  congr 2
  omega
 ·have h6:v=[]:=by simpa [oQ] using h6
  subst h6
  rw [aB (by rfl)]
  simp [b]
  omega
theorem qU {s:List UInt8} : ∀ {n at':Nat} {d:List K} {os:List OpB} {to:Nat} {b:List OpB},iF s n at' d os = .inl (to,b)→
  ∃ us,b=os++us∧us.length=n∧(∀ i,fJ i d us=none)∧s.drop at'=us.flatMap gA++s.drop to∧to=at'+(us.flatMap gA).length
 | 0,at',d,os,to,b,h=>by
  cases h
  exact ⟨[],by simp,rfl,fun _=>rfl,rfl,rfl⟩
 | n+1,at',d,os,to,b,h=>by
  unfold iF at h
  cases hc:jY s at' d with
  | inr f=>rw [hc] at h;cases h
  | inl x =>
   obtain ⟨o,m⟩:=x
   rw [hc] at h
   simp only at h
   obtain ⟨h1,h2,h3⟩:=rR hc
   obtain ⟨us,j,l,q,r,u⟩:=qU h
   refine ⟨o::us,by rw [j];simp,by simp [l],fun i => ?_,?_,?_⟩
   ·unfold fJ
    rw [aB h1]
    exact q (i+1)
   ·rw [h2,r,cN,bq]
   ·rw [u,h3,cN,aq];omega
theorem sA {s:List UInt8} : ∀ {us:List OpB} {at' i:Nat} {b:List K} {os:List OpB} {t:List UInt8},fJ i b us=none→s.drop at'=us.flatMap gA++t→
  iF s us.length at' b os = .inl (at'+(us.flatMap gA).length,os++us)
 | [],at',i,b,os,t,h,hs=>by simp [iF]
 | o::us,at',i,b,os,t,h,hs=>by
  unfold fJ at h
  split at h
  ·rename_i d
   rw [cN,bq] at hs
   have hc:=AG d hs
   have hd:s.drop (at'+(gA o).length)=us.flatMap gA++t:=by rw [←cK,hs,ew]
   have ih:=sA (os:=os++[o]) h hd
   rw [ar]
   unfold iF
   rw [hc]
   simp only [ih,cN,aq,bq,aV,aO]
   congr 2
   omega
  ·cases h
theorem E8 {k:List UInt8} (h:k.length=8):∃ a b c d e f g i,k=[a,b,c,d,e,f,g,i]:=by
 match k,h with
 | [a,b,c,d,e,f,g,i],_=>exact ⟨a,b,c,d,e,f,g,i,rfl⟩
theorem uP (v:Nat) (h:v<18446744073709551616):iw (j4 v)=v:=by
 simp [iw,j4,List.range,List.range.loop]
 omega
theorem yk (l:List UInt8) (h:l.length=8):j4 (iw l)=l:=by
 obtain ⟨a,b,c,d,e,f,g,i,rfl⟩:=E8 h
 have ha:=a.toNat_lt
 have j:=b.toNat_lt
 have hc:=c.toNat_lt
 have hd:=d.toNat_lt
 have he:=e.toNat_lt
 have m:=f.toNat_lt
 have o:=g.toNat_lt
 have q:=i.toNat_lt
 simp only [iw,j4,List.range,List.range.loop,bg,di,List.foldl_cons,List.foldl_nil,eP,and_true,←eh,UInt8.toNat_ofNat']
 refine ⟨?_,?_,?_,?_,?_,?_,?_,?_⟩ <;> simp <;> omega
theorem kh {v:Nat} (h:isVersionB v=true):v<18446744073709551616:=by
 unfold isVersionB at h;simp at h;omega
theorem FH (v:Nat) (os:List OpB) (h:gE v os=none):kS (iG v os) = .inl (v,os):=by
 unfold gE at h
 split at h
 ·cases h
 ·rename_i i
  split at h
  ·cases h
  ·rename_i m
   have b:isVersionB v=true:=by simpa using i
   have hl:(iG v os).length=9+(os.flatMap gA).length:=by unfold iG;rw [aq,fQ,ar];omega
   have j:(iG v os).take 8=j4 v:=by unfold iG;rw [←fQ v,dY]
   have hd:(iG v os).drop 8=UInt8.ofNat os.length::os.flatMap gA:=by unfold iG;rw [←fQ v,ew]
   have d:(iG v os).drop 9=os.flatMap gA:=by rw [show 9=8+1 from rfl,←cK,hd];rfl
   have l:(UInt8.ofNat os.length).toNat=os.length:=by simp;omega
   unfold kS
   rw [au (by omega),j,uP v (kh b),au (by simp [b]),au (by omega),hd]
   simp only [eR,l]
   rw [au (by omega),sA (t:=[]) h (by rw [d,cZ])]
   simp only [aO]
   rw [au (by omega)]
theorem sY (s:List UInt8) (v:Nat) (os:List OpB) (h:kS s = .inl (v,os)):gE v os=none∧iG v os=s:=by
 unfold kS at h
 split at h
 ·cases h
 ·split at h
  ·cases h
  ·split at h
   ·cases h
   ·split at h
    ·cases h
    ·rename_i h8 u h9 E
     split at h
     ·cases h
     ·rename_i at' C hc
      split at h
      ·cases h
      ·rename_i D
       cases h
       obtain ⟨us,i,j,y,l,F⟩:=qU hc
       rw [aO] at i
       rw [i]
       have m:(s.take 8).length=8:=by rw [aD];omega
       have b:s.drop at'=[]:=List.drop_eq_nil_of_le (by omega)
       refine ⟨?_,?_⟩
       ·unfold gE
        rw [au u,au (by omega)]
        exact y 0
       ·unfold iG
        rw [yk _ m]
        obtain ⟨x,r,d⟩:∃ x r,s.drop 8=x::r:=by
         cases B:s.drop 8 with
         | nil=>have:=bG List.length B;simp at this;omega
         | cons x r=>exact ⟨x,r,rfl⟩
        have o:s.drop 9=r:=by rw [show 9=8+1 from rfl,←cK,d];rfl
        rw [o,b,cZ] at l
        rw [d] at j
        rw [←l]
        have q:UInt8.ofNat us.length=x:=by rw [j];simp
        rw [q,←d,cU]
theorem AL {s:List UInt8} {at':Nat} {b:List K} {f:Nat×Nat} (h:jY s at' b = .inr f) (hle:at'≤s.length):1≤f.1∧f.1≤14∧f.2≤s.length:=by
 unfold jY at h
 split at h
 ·rename_i x y r hd
  obtain ⟨d,hl⟩:=drop2 hd
  repeat' (split at h)
  all_goals first | (cases h;simp only;omega) | cases h
 ·cases h;simp only;omega
theorem sz {s:List UInt8} : ∀ {n at':Nat} {b:List K} {os:List OpB} {f:Nat×Nat},iF s n at' b os = .inr f→at'≤s.length→1≤f.1∧f.1≤14∧f.2≤s.length
 | 0,at',b,os,f,h,hle=>by cases h
 | n+1,at',b,os,f,h,hle=>by
  unfold iF at h
  cases hc:jY s at' b with
  | inr g=>rw [hc] at h;cases h;exact AL hc hle
  | inl x =>
   obtain ⟨o,m⟩:=x
   rw [hc] at h
   obtain ⟨h1,h2,h3⟩:=rR hc
   refine sz h ?_
   have:=bG List.length h2
   rw [aq,cd,cd] at this
   have d := @mG o
   omega
theorem zT {s:List UInt8} {f:Nat×Nat} (h:kS s = .inr f):1≤f.1∧f.1≤14∧f.2≤s.length:=by
 unfold kS at h
 split at h
 ·cases h;simp
 ·split at h
  ·cases h;simp
  ·split at h
   ·cases h;simp only;omega
   ·split at h
    ·cases h;simp only;omega
    ·split at h
     ·rename_i b hc
      cases h
      exact sz hc (by omega)
     ·split at h
      ·cases h;simp only;omega
      ·cases h
theorem xe (o:OpB) (b:List K) (h:gX o b≠0):1≤gX o b∧gX o b≤14:=by
 refine ⟨by omega,?_⟩
 unfold gX
 repeat' split
 all_goals omega
theorem ph:∀ (os:List OpB) (i:Nat) (b:List K) {f:Nat×Nat},fJ i b os=some f→1≤f.1∧f.1≤14∧i≤f.2∧f.2<i+os.length
 | [],i,b,f,h=>by cases h
 | o::os,i,b,f,h=>by
  unfold fJ at h
  split at h
  ·have:=ph os (i+1) _ h
   rw [ar]
   omega
  ·rename_i d
   cases h
   have:=xe o b d
   simp only [ar]
   omega
theorem rW {v:Nat} {os:List OpB} {f:Nat×Nat} (h:gE v os=some f):1≤f.1∧f.1≤14∧f.2≤8:=by
 unfold gE at h
 split at h
 ·cases h;simp
 ·split at h
  ·cases h;simp
  ·have:=ph os 0 [] h
   omega
end Go.Proofs.YtkkfmkhbdoeglaaGreatDoor
namespace Go.Proofs.YtkkfmkhbdoeglaaGreatDoor
open Go.RowKit Go.ChangeMaps
abbrev Z:=K×Value×Nat
def nB (z:Z):MapEntry:=⟨kV z.1,z.2.1,z.2.2⟩
def E6 (z:Z):K×Value:=(z.1,z.2.1)
theorem yB:∀ (es:List MapEntry) (l:List (K×Value)),es.map (fun e=>(e.key,e.val))=l.map (fun x=>(kV x.1,x.2))→∃ zs:List Z,es=zs.map nB∧l=zs.map E6
 | [],[],_=>⟨[],rfl,rfl⟩
 | [],_::_,h=>by simp at h
 | _::_,[],h=>by simp at h
 | e::es,x::l,h=>by
  simp only [bg,eP,Prod.mk.injEq] at h
  obtain ⟨zs,rfl,rfl⟩:=yB es l h.2
  refine ⟨(x.1,x.2,e.born)::zs,?_,rfl⟩
  rw [bg]
  congr 1
  unfold nB
  rw [←h.1.1,←h.1.2]
def fU (w:World) (r q:Nat) (l pre:List (K×Value)):Prop :=
 ∃ (zs b:List Z) (clock since c0:Nat),l=zs.map E6∧pre=b.map E6∧w.heap[r]?=some (.map (zs.map nB).toArray clock)∧w.heap[q]?=some (.mapIter (some r) since (b.map (·.2.2)).toArray c0)∧
  (∀ z∈zs,z.2.2<since)∧since≤c0∧since≤clock∧(zs.map (·.2.2)).Nodup∧(l.map (·.1)).Nodup∧(∀ y∈b,y∈zs)∧(b.map (·.2.2)).Nodup
theorem fU.map {w:World} {r q:Nat} {l pre:List (K×Value)} (h:fU w r q l pre):fF w r l:=by
 obtain ⟨zs,o,clock,since,c0,rfl,rfl,d,hq,hs,s,hc,i,hk,u,m⟩:=h
 refine ⟨_,clock,d,?_,?_,?_,hk⟩
 ·simp [nB,E6]
 ·intro e he
  simp at he
  obtain ⟨a,b,x,n,j,rfl⟩:=he
  have:=hs _ j
  simp [nB]
  simp at this
  omega
 ·simpa [nB,Function.comp_def] using i
theorem fU.frame {w w':World} {r q:Nat} {l pre:List (K×Value)} (h:fU w r q l pre) (d:w'.heap[r]?=w.heap[r]?) (hq:w'.heap[q]?=w.heap[q]?):fU w' r q l pre:=by
 obtain ⟨zs,i,clock,since,c0,h1,h2,j,b,r⟩:=h
 exact ⟨zs,i,clock,since,c0,h1,h2,d.trans j,hq.trans b,r⟩
theorem fU.lt {w:World} {r q:Nat} {l pre:List (K×Value)} (h:fU w r q l pre):r<w.heap.size∧q<w.heap.size:=by
 obtain ⟨zs,i,clock,since,c0,h1,h2,d,b,_⟩:=h
 exact ⟨fw d,fw b⟩
theorem fU.sub {w:World} {r q:Nat} {l pre:List (K×Value)} (h:fU w r q l pre):(∀ x∈pre,x∈l)∧(l.map (·.1)).Nodup∧(pre.map (·.1)).Nodup:=by
 obtain ⟨zs,u,clock,since,c0,rfl,rfl,d,hq,hs,D,hc,C,hk,j,m⟩:=h
 refine ⟨fun x B => ?_,hk,?_⟩
 ·obtain ⟨y,h1,rfl⟩:=az.1 B
  exact az.2 ⟨y,j y h1,rfl⟩
 ·have key:∀ a∈zs,∀ b∈zs,a.1=b.1→a=b:=by
   clear hs j m d hq C
   intro a ha b d e
   induction zs with
   | nil=>cases ha
   | cons z zs ih =>
    simp only [bg,dj] at hk
    rcases aT.1 ha with rfl | s
    ·rcases aT.1 d with rfl | o
     ·rfl
     ·refine absurd (az.2 ⟨E6 b,az.2 ⟨b,o,rfl⟩,?_⟩) hk.1
      exact e.symm
    ·rcases aT.1 d with rfl | o
     ·refine absurd (az.2 ⟨E6 a,az.2 ⟨a,s,rfl⟩,?_⟩) hk.1
      exact e
     ·exact ih hk.2 s o
  have i:u.Nodup:=by
   have:=dz.1 m
   exact this.imp (fun h e=>h (by rw [e]))
  rw [List.map_map]
  refine dz.2 ?_
  clear m hs hk d hq C
  induction u with
  | nil=>exact List.Pairwise.nil
  | cons y u ih =>
   rw [dj] at i
   refine List.Pairwise.cons (fun b d e => ?_) (ih (fun x B=>j x (aR _ B)) i.2)
   have:=key y (j y (by simp)) b (j b (aR _ d)) e
   exact i.1 (this▸d)
theorem EM (i d:List Nat) (j:i.Nodup) (o:d.Nodup) (hs:∀ y∈d,y∈i):(i.filter fun b => !d.contains b).length+d.length=i.length:=by
 have q:(d++i.filter fun b => !d.contains b).Perm i:=by
  refine (cY ?_ j).2 fun a => ?_
  ·refine b9.2 ⟨o,j.sublist List.filter_sublist,fun a ha b l e => ?_⟩
   subst e
   simp at l
   exact l.2 ha
  ·simp
   constructor
   ·rintro (h | h)
    ·exact hs a h
    ·exact h.1
   ·intro h
    by_cases m:a∈d
    ·exact .inl m
    ·exact .inr ⟨h,m⟩
 have:=q.length_eq
 rw [aq] at this
 omega
theorem wG (zs b:List Z):(leftOf (zs.map nB).toArray (b.map (·.2.2)).toArray).toList=(zs.filter fun z => !(b.map (·.2.2)).contains z.2.2).map nB:=by
 unfold leftOf
 rw [Array.toList_filter,List.filter_map]
 congr 1
 refine List.filter_congr fun z _ => ?_
 simp only [Function.comp,nB,List.contains_toArray]
theorem yL (zs:List Z) (p:Nat→Bool):((zs.filter fun z=>p z.2.2).map (·.2.2))=(zs.map (·.2.2)).filter p:=by
 rw [List.filter_map];rfl
theorem l4 (w:World) (q:Nat) (o:Obj) {k:Nat} (h:k≠q):(setBlock w q o).heap[k]?=w.heap[k]?:=by
 simp [setBlock,ea h]
theorem fU.left {w:World} {r q:Nat} {l pre:List (K×Value)} (h:fU w r q l pre):w.rangeLeft r q+pre.length=l.length:=by
 obtain ⟨zs,d,clock,since,c0,rfl,rfl,i,hq,hs,u,hc,m,hk,o,j⟩:=h
 unfold World.rangeLeft
 rw [i,hq]
 simp only
 have e:=wG zs d
 have s:(leftOf (zs.map nB).toArray (d.map (·.2.2)).toArray).size=((zs.map (·.2.2)).filter fun b => !(d.map (·.2.2)).contains b).length:=by
  rw [←db,e,aG,←yL,aG]
 rw [s]
 have:=EM (zs.map (·.2.2)) (d.map (·.2.2)) m j (fun b i=>by
  obtain ⟨y,h1,rfl⟩:=az.1 i
  exact az.2 ⟨y,o y h1,rfl⟩)
 simp only [aG] at this⊢
 exact this
section
open Classical in
theorem fU.perm {w:World} {r q:Nat} {l pre:List (K×Value)} (h:fU w r q l pre) (hl:w.rangeLeft r q=0):pre.Perm l:=by
 have hlen:=h.left
 rw [hl,bE] at hlen
 obtain ⟨h1,h2,h3⟩:=h.sub
 have j:pre.Nodup:=(dz.1 h3).imp (fun h e=>h (by rw [e]))
 have i:l.Nodup:=(dz.1 h2).imp (fun h e=>h (by rw [e]))
 refine (cY j i).2 fun a=>⟨h1 a,fun ha => ?_⟩
 refine ef fun m => ?_
 have o:(a::pre).Nodup:=dj.2 ⟨m,j⟩
 have u:((a::pre)++l.filter fun b => !(a::pre).contains b).Perm l:=by
  refine (cY ?_ i).2 fun b => ?_
  ·refine b9.2 ⟨o,i.sublist List.filter_sublist,fun x B y C e => ?_⟩
   subst e
   have d:=(cf.1 C).2
   rw [List.contains_iff_mem.2 B] at d
   cases d
  ·rw [bQ,cf]
   constructor
   ·rintro (h | h)
    ·rcases aT.1 h with rfl | h
     ·exact ha
     ·exact h1 b h
    ·exact h.1
   ·intro h
    by_cases s:b∈a::pre
    ·exact .inl s
    ·exact .inr ⟨h,by
      cases hc:(a::pre).contains b with
      | true=>exact absurd (List.contains_iff_mem.1 hc) s
      | false=>rfl⟩
 have:=u.length_eq
 simp only [aq,ar] at this
 omega
end
section
variable {w:World} {r q:Nat} {l pre:List (K×Value)} {mt e:TypeId}
theorem fF.range (h:fF w r l) (j:Tryz.prog.underlying mt=some (.map 94 e)) :
  ∃ w',(Instr.range mt (.map (some r))).run Tryz.prog w = .ok (.pointer (some ⟨w.heap.size,0,none⟩)) w'∧fU w' r w.heap.size l []∧Below w.heap.size w w'∧w'.heap.size=w.heap.size+1:=by
 obtain ⟨es,clock,b,hl,hc,d,hk⟩:=h
 obtain ⟨zs,h1,h2⟩:=yB es.toList l hl
 have i:es=(zs.map nB).toArray:=by rw [←h1]
 have o:=fw b
 refine ⟨w.alloc (.mapIter (some r) clock #[] clock),?_,⟨zs,[],clock,clock,clock,h2,rfl,?_,fA w _,?_,af _,af _,?_,hk,(fun _ h=>by cases h),List.nodup_nil⟩,(Below.refl _ w).alloc (af _) _,by simp⟩
 ·simp [Instr.range,aL j,aJ b,Result.andThen,newObj,Sem.run]
 ·rw [←i]
  exact fG w _ b
 ·intro z m
  exact hc (nB z) (by rw [h1];exact az.2 ⟨z,m,rfl⟩)
 ·rw [h1,List.map_map] at d
  exact d
theorem fU.next (h:fU w r q l pre) (ty:TypeId) :
  (w.rangeLeft r q=0∧(Instr.next (.pointer (some ⟨q,0,none⟩)) false ty).run Tryz.prog w = .ok (.tuple #[.bool false]) w)∨
  ∃ (x:K×Value) (w':World),x∈l∧x.1∉pre.map (·.1)∧(Instr.next (.pointer (some ⟨q,0,none⟩)) false ty).run Tryz.prog w = .ok (.tuple #[.bool true,kV x.1,x.2]) w'∧fU w' r q l (pre++[x])∧w.grownBy w' (some q)∧w'.heap.size=w.heap.size∧
   (Instr.entry (.pointer (some ⟨q,0,none⟩))).run Tryz.prog w' = .ok (.tuple #[kV x.1,x.2]) w'∧r≠q:=by
 have V:=h
 obtain ⟨zs,d,clock,since,c0,rfl,rfl,j,hq,hs,Q,hc,I,hk,R,J⟩:=h
 have m:r≠q:=fun e=>by rw [e] at j;rw [j] at hq;cases hq
 have hold:∀ x∈((zs.map nB).toArray).toList,x.born<since:=by
  intro x S
  obtain ⟨z,D,rfl⟩:=az.1 (show x∈zs.map nB from S)
  exact hs z D
 rcases run_next_at (P:=Tryz.prog) w ty q r since c0 (d.map (·.2.2)).toArray (zs.map nB).toArray clock hq j hold Q with ⟨h1,h2⟩ | ⟨e0,s,w1,i,E⟩
 ·left
  refine ⟨?_,h2⟩
  unfold World.rangeLeft
  rw [j,hq]
  exact h1
 ·right
  rw [wG] at s
  obtain ⟨z,D,rfl⟩:=az.1 s
  obtain ⟨o,M⟩:=cf.1 D
  have F:z.2.2∉d.map (·.2.2):=by simpa using M
  have u:w1.heap[r]?=some (.map (zs.map nB).toArray clock):=by rcases i with rfl | rfl <;> exact j
  have B:w1.heap[q]?=some (.mapIter (some r) since (d.map (·.2.2)).toArray c0):=by rcases i with rfl | rfl <;> exact hq
  have N:fU (setBlock w1 q (.mapIter (some r) since ((d.map (·.2.2)).toArray.push z.2.2) clock)) r q (zs.map E6) (d.map E6++[E6 z]):=by
   refine ⟨zs,d++[z],clock,since,clock,rfl,by simp,?_,?_,hs,hc,hc,I,hk,?_,?_⟩
   ·rw [l4 _ _ _ m];exact u
   ·rw [fK B];simp
   ·intro y O
    rcases bQ.1 O with h | h
    ·exact R y h
    ·rw [aA.1 h];exact o
   ·rw [bA]
    refine b9.2 ⟨J,by simp,fun a ha b C e => ?_⟩
    simp at C
    exact F (by rw [←C,←e];exact ha)
  have U:w.grownBy (setBlock w1 q (.mapIter (some r) since ((d.map (·.2.2)).toArray.push z.2.2) clock)) (some q):=by
   rcases i with rfl | rfl
   ·exact ⟨rfl,rfl,rfl,by simp [setBlock],fun k _ hk=>l4 _ _ _ (fun e=>hk (by rw [e]))⟩
   ·exact ⟨rfl,rfl,rfl,by simp [setBlock],fun k _ hk=>l4 w.drew _ _ (fun e=>hk (by rw [e]))⟩
  refine ⟨E6 z,_,az.2 ⟨z,o,rfl⟩,?_,E,N,U,?_,?_,m⟩
  ·have:=N.sub.2.2
   rw [bA,b9] at this
   intro G
   exact this.2.2 _ G _ (by simp) rfl
  ·rcases i with rfl | rfl <;> simp [setBlock]
  ·refine run_entry_at _ q r since (d.map (·.2.2)).toArray (zs.map nB).toArray clock (nB z) (fK B) ?_ (show nB z∈zs.map nB from az.2 ⟨z,o,rfl⟩) ?_
   ·rw [l4 _ _ _ m];exact u
   ·simpa [nB,Function.comp_def] using I
variable {ops:Array Oper} {rest:List Oper} {o:Oper} {a:Act} {Q:Exit→Act→World→Prop}
theorem kv (i:o.guard=none) (m:Operand) (d:o.op=Op.range mt m) (j:Tryz.prog.underlying mt=some (.map 94 e)) (hm:a.eval m = .map (some r)) (h:fF w r l)
  (hK:∀ w',fU w' r w.heap.size l []→Below w.heap.size w w'→w'.heap.size=w.heap.size+1→wpList Tryz.prog ops Q rest (a.put o.dst (.pointer (some ⟨w.heap.size,0,none⟩))) w') :
  wpList Tryz.prog ops Q (o::rest) a w:=by
 refine ff i fun s hK' => ?_
 obtain ⟨w',b,r1,r2,q⟩:=h.range j
 unfold Oper.wp
 simp [execOp,d,hm,b,Result.andThen]
 exact hK' _ _ (hK w' r1 r2 q)
theorem kZ (E:o.guard=none) (it:Operand) (s:o.op=Op.next it false) (u:a.eval it = .pointer (some ⟨q,0,none⟩)) (h:fU w r q l pre)
  (j:pre.Perm l→wpList Tryz.prog ops Q rest (a.put o.dst (.tuple #[.bool false])) w)
  (m:∀ (b:Int) (d:List UInt8) (v:Value) (w':World),((b,d),v)∈l→(b,d)∉pre.map (·.1)→fU w' r q l (pre++[((b,d),v)])→w.grownBy w' (some q)→w'.heap.size=w.heap.size→
   (Instr.entry (.pointer (some ⟨q,0,none⟩))).run Tryz.prog w' = .ok (.tuple #[.agg #[.int .i64 b,.string ⟨d.toArray⟩],v]) w'→r≠q→wpList Tryz.prog ops Q rest (a.put o.dst (.tuple #[.bool true,.agg #[.int .i64 b,.string ⟨d.toArray⟩],v])) w') :
  wpList Tryz.prog ops Q (o::rest) a w:=by
 refine ff E fun J hK' => ?_
 unfold Oper.wp
 rcases h.next o.type with ⟨F,i⟩ | ⟨⟨⟨b,d⟩,v⟩,w',G,x,i,I,y,B,C,D⟩
 ·simp [execOp,s,u,i,Result.andThen]
  exact hK' _ _ (j (h.perm F))
 ·simp [execOp,s,u,i,Result.andThen]
  exact hK' _ _ (m b d v w' G x I y B C D)
variable {F:Fence} {nF:Nat}
theorem mV (j:o.guard=none) (m:Operand) (b:o.op=Op.range mt m) (q:Tryz.prog.underlying mt=some (.map 94 e)) (hm:a.eval m = .map (some r)) (h:fF w r l)
  (hK:∀ w',fU w' r w.heap.size l []→Below w.heap.size w w'→w'.heap.size=w.heap.size+1→wpListIn F nF Tryz.prog ops Q rest (a.put o.dst (.pointer (some ⟨w.heap.size,0,none⟩))) w') :
  wpListIn F nF Tryz.prog ops Q (o::rest) a w:=by
 refine wpListIn_plain j fun u hK' => ?_
 obtain ⟨w',d,r1,r2,s⟩:=h.range q
 unfold Oper.wpIn
 refine ⟨by simp [Oper.about,b],?_⟩
 rw [Oper.semAt_plain F _ _ (by rw [b];intro c i;cases i)]
 simp [execOp,b,hm,d,Result.andThen]
 exact hK' _ _ (hK w' r1 r2 s)
theorem nR (G:o.guard=none) (it:Operand) (j:o.op=Op.next it false) (u:a.eval it = .pointer (some ⟨q,0,none⟩)) (h:fU w r q l pre)
  (m:pre.Perm l→wpListIn F nF Tryz.prog ops Q rest (a.put o.dst (.tuple #[.bool false])) w)
  (s:∀ (b:Int) (d:List UInt8) (v:Value) (w':World),((b,d),v)∈l→(b,d)∉pre.map (·.1)→fU w' r q l (pre++[((b,d),v)])→w.grownBy w' (some q)→w'.heap.size=w.heap.size→
   (Instr.entry (.pointer (some ⟨q,0,none⟩))).run Tryz.prog w' = .ok (.tuple #[.agg #[.int .i64 b,.string ⟨d.toArray⟩],v]) w'→r≠q→wpListIn F nF Tryz.prog ops Q rest (a.put o.dst (.tuple #[.bool true,.agg #[.int .i64 b,.string ⟨d.toArray⟩],v])) w') :
  wpListIn F nF Tryz.prog ops Q (o::rest) a w:=by
 refine wpListIn_plain G fun N hK' => ?_
 unfold Oper.wpIn
 refine ⟨by simp [Oper.about,j],?_⟩
 rw [Oper.semAt_plain F _ _ (by rw [j];intro c x;cases x)]
 rcases h.next o.type with ⟨I,i⟩ | ⟨⟨⟨b,d⟩,v⟩,w',J,y,i,M,B,C,D,E⟩
 ·simp [execOp,j,u,i,Result.andThen]
  exact hK' _ _ (m (h.perm I))
 ·simp [execOp,j,u,i,Result.andThen]
  exact hK' _ _ (s b d v w' J y M B C D E)
end
end Go.Proofs.YtkkfmkhbdoeglaaGreatDoor
namespace Go.Proofs.YtkkfmkhbdoeglaaGreatDoor
abbrev E:=K×List UInt8
def pI (a b:K):Bool:=decide (a.1<b.1) || (decide (a.1=b.1)&&decide (a.2<b.2))
theorem sX (a b:K):pI a b=true↔a.1<b.1∨(a.1=b.1∧a.2<b.2):=by simp [pI]
theorem qC (a:K):pI a a=false:=by
 cases h:pI a a with
 | false=>rfl
 | true =>
  rw [sX] at h
  rcases h with h | ⟨-,h⟩
  ·omega
  ·exact absurd h (fj _)
theorem nJ {a b c:K} (h:pI a b=true) (k:pI b c=true):pI a c=true:=by
 rw [sX] at *
 rcases h with h | ⟨h1,h2⟩
 ·rcases k with k | ⟨i,d⟩
  ·exact .inl (by omega)
  ·exact .inl (by omega)
 ·rcases k with k | ⟨i,d⟩
  ·exact .inl (by omega)
  ·exact .inr ⟨by omega,List.lt_trans h2 d⟩
theorem mw {a b:K} (h:pI a b=true):pI b a=false:=by
 cases k:pI b a with
 | false=>rfl
 | true=>rw [←qC a,nJ h k]
theorem qo {a b:K} (h:pI a b=true):a≠b:=fun e=>by rw [e,qC] at h;cases h
theorem wT (a b:K):pI a b=true∨a=b∨pI b a=true:=by
 rw [sX,sX]
 rcases dO a.1 b.1 with h | h | h
 ·exact .inl (.inl h)
 ·by_cases h1:a.2<b.2
  ·exact .inl (.inr ⟨h,h1⟩)
  ·by_cases h2:b.2<a.2
   ·exact .inr (.inr (.inr ⟨h.symm,h2⟩))
   ·exact .inr (.inl (Prod.ext h (List.le_antisymm (List.not_lt.1 h2) (List.not_lt.1 h1))))
 ·exact .inr (.inr (.inl h))
def SortedE (S:List E):Prop:=S.Pairwise fun x y=>pI x.1 y.1=true
theorem SortedE.nil:SortedE []:=List.Pairwise.nil
theorem SortedE.keys {S:List E} (h:SortedE S):(S.map (·.1)).Nodup:=dz.2 (h.imp fun h=>qo h)
theorem SortedE.nodup {S:List E} (h:SortedE S):S.Nodup:=List.Pairwise.imp (R:=fun x y:E=>pI x.1 y.1=true) (fun {a b} h (e:a=b)=>qo h (by rw [e])) h
theorem SortedE.ext:∀ {S T:List E},SortedE S→SortedE T→(∀ x,x∈S↔x∈T)→S=T
 | [],[],_,_,_=>rfl
 | [],y::T,_,_,h=>by have:=(h y).2 (by simp);cases this
 | x::S,[],_,_,h=>by have:=(h x).1 (by simp);cases this
 | x::S,y::T,q,r,h=>by
  obtain ⟨d,l⟩:=eX.1 q
  obtain ⟨i,m⟩:=eX.1 r
  have o:x=y:=by
   rcases aT.1 ((h x).1 (by simp)) with e | s
   ·exact e
   ·rcases aT.1 ((h y).2 (by simp)) with e | u
    ·exact e.symm
    ·have:=mw (i x s)
     rw [d y u] at this
     cases this
  subst o
  congr 1
  refine SortedE.ext l m fun z=>⟨fun b => ?_,fun b => ?_⟩
  ·rcases aT.1 ((h z).1 (aR _ b)) with e | j
   ·exact absurd e.symm (fun e=>qo (d z b) (by rw [e]))
   ·exact j
  ·rcases aT.1 ((h z).2 (aR _ b)) with e | j
   ·exact absurd e.symm (fun e=>qo (i z b) (by rw [e]))
   ·exact j
def jS (k:K) (v:List UInt8) (S:List E):List E:=S.filter (fun x=>pI x.1 k)++(k,v)::S.filter (fun x=>pI k x.1)
def ng (k:K) (S:List E):List E:=S.filter fun x => !(x.1==k)
def jb (k:K) (S:List E):Option (List UInt8):=(S.find? fun x=>k==x.1).map (·.2)
theorem sorted_put (k:K) (v:List UInt8) {S:List E} (h:SortedE S):SortedE (jS k v S):=by
 unfold jS SortedE
 rw [ek]
 refine ⟨h.filter _,eX.2 ⟨fun y b=>(cf.1 b).2,h.filter _⟩,fun x d y b => ?_⟩
 have h1:=(cf.1 d).2
 rcases aT.1 b with rfl | b
 ·exact h1
 ·exact nJ h1 (cf.1 b).2
theorem kN (k:K) {S:List E} (h:SortedE S):SortedE (ng k S):=h.filter _
theorem iY (k:K) (v:List UInt8) (S:List E) (x:E):x∈jS k v S↔x=(k,v)∨(x∈S∧x.1≠k):=by
 unfold jS
 simp only [bQ,cf,aT]
 constructor
 ·rintro (⟨h1,h2⟩ | h | ⟨h1,h2⟩)
  ·exact .inr ⟨h1,qo h2⟩
  ·exact .inl h
  ·exact .inr ⟨h1,(qo h2).symm⟩
 ·rintro (h | ⟨h1,h2⟩)
  ·exact .inr (.inl h)
  ·rcases wT x.1 k with h | h | h
   ·exact .inl ⟨h1,h⟩
   ·exact absurd h h2
   ·exact .inr (.inr ⟨h1,h⟩)
theorem lQ (k:K) (S:List E) (x:E):x∈ng k S↔x∈S∧x.1≠k:=by
 unfold ng
 rw [cf]
 simp
theorem Et {l:List E} {k:K} {x:E} (h:l.find? (fun x=>k==x.1)=some x):x∈l∧x.1=k:=by
 refine ⟨List.mem_of_find?_eq_some h,?_⟩
 have:=List.find?_some h
 exact (bf.1 this).symm
theorem nj {S:List E} (h:(S.map (·.1)).Nodup) (k:K) (v:List UInt8):jb k S=some v↔(k,v)∈S:=by
 unfold jb
 constructor
 ·intro b
  obtain ⟨x,d,rfl⟩:=ch.1 b
  obtain ⟨h1,h2⟩:=Et d
  rw [←h2]
  exact h1
 ·intro hm
  induction S with
  | nil=>cases hm
  | cons y S ih =>
   rw [bg,dj] at h
   rw [dQ]
   rcases aT.1 hm with rfl | hm
   ·simp
   ·have:(k==y.1)=false:=by
     rw [aC]
     exact fun e=>h.1 (e▸az.2 ⟨_,hm,rfl⟩)
    rw [this]
    exact ih h.2 hm
theorem get_none {S:List E} (k:K):jb k S=none↔∀ x∈S,x.1≠k:=by
 unfold jb
 rw [Option.map_eq_none_iff,List.find?_eq_none]
 constructor
 ·intro h x b e
  exact h x b (by rw [bf,e])
 ·intro h x b e
  exact h x b (bf.1 e).symm
def CC (S:List E) (o:OpB):List E:=if o.kind=1 then jS (o.table,o.key) o.val S else ng (o.table,o.key) S
def foldS (S:List E) (os:List OpB):List E:=os.foldl CC S
theorem wv {S:List E} (o:OpB) (h:SortedE S):SortedE (CC S o):=by
 unfold CC
 split
 ·exact sorted_put _ _ h
 ·exact kN _ h
theorem nf:∀ {S:List E} (os:List OpB),SortedE S→SortedE (foldS S os)
 | _,[],h=>h
 | _,o::os,h=>nf os (wv o h)
theorem xi (S:List E) (os us:List OpB):foldS S (os++us)=foldS (foldS S os) us:=dx
theorem AB (S:List E) (os:List OpB) (k:Nat) (h:k<os.length):foldS S (os.take (k+1))=CC (foldS S (os.take k)) os[k]:=by
 rw [aW h,xi]
 rfl
def countS (t:Int) (S:List E):Nat:=S.countP fun x=>decide (x.1.1=t)
def sizeS (S:List E):Nat:=(S.map fun x=>1+x.1.2.length+x.2.length).sum
end Go.Proofs.YtkkfmkhbdoeglaaGreatDoor
namespace Go.Proofs.YtkkfmkhbdoeglaaGreatDoor
open Go.RowKit Go.ChangeMaps
def kc (s:List UInt8):Value := .agg #[.string ⟨s.toArray⟩]
def zS (x:E):K×Value:=(x.1,kc x.2)
theorem DV {a b:List UInt8} (h:kc a=kc b):a=b:=by
 unfold kc at h
 simp only [Value.agg.injEq,Array.mk.injEq,eP,Value.string.injEq,ByteArray.mk.injEq,and_true] at h
 exact h
theorem Gi {x y:E} (h:zS x=zS y):x=y:=by
 unfold zS at h
 simp only [Prod.mk.injEq] at h
 exact Prod.ext h.1 (DV h.2)
def TabAt (w:World) (r:Nat) (S:List E):Prop:=SortedE S∧∃ L,fF w r L∧L.Perm (S.map zS)
theorem TabAt.sorted {w:World} {r:Nat} {S:List E} (h:TabAt w r S):SortedE S:=h.1
theorem TabAt.lt {w:World} {r:Nat} {S:List E} (h:TabAt w r S):r<w.heap.size:=h.2.elim fun _ h=>h.1.lt
theorem TabAt.fP {w w':World} {r:Nat} {S:List E} (h:TabAt w r S) (b:w'.heap[r]?=w.heap[r]?):TabAt w' r S:=by
 obtain ⟨hs,L,hm,d⟩:=h
 exact ⟨hs,L,hm.fP b,d⟩
theorem TabAt.new (w:World):TabAt (w.alloc (.map #[] 0)) w.heap.size []:=⟨SortedE.nil,[],fF.new w,List.Perm.refl _⟩
theorem qT (S:List E):(S.map zS).map (·.1)=S.map (·.1):=by rw [List.map_map];rfl
theorem oF {k:K} {v:Value} : ∀ {L:List (K×Value)},(L.map (·.1)).Nodup→(mu k L=some v↔(k,v)∈L)
 | [],_=>by simp [mu]
 | y::L,h=>by
  rw [bg,dj] at h
  unfold mu
  rw [dQ]
  cases hk:(k==y.1) with
  | true =>
   rw [bf] at hk
   subst hk
   simp only [dR,eC,aT]
   constructor
   ·rintro rfl;exact .inl rfl
   ·rintro (e | hm)
    ·rw [←e]
    ·exact absurd (az.2 ⟨_,hm,rfl⟩) h.1
  | false =>
   rw [aC] at hk
   have := @oF k v L h.2
   unfold mu at this
   simp only [this,aT]
   constructor
   ·exact .inr
   ·rintro (e | hm)
    ·exact absurd (by rw [←e]) hk
    ·exact hm
theorem BW {S:List E} {L:List (K×Value)} (hs:SortedE S) (d:(L.map (·.1)).Nodup) (i:L.Perm (S.map zS)) (k:K):mu k L=(jb k S).map kc:=by
 cases b:jb k S with
 | some v =>
  rw [nj hs.keys] at b
  exact (oF d).2 (i.mem_iff.2 (az.2 ⟨_,b,rfl⟩))
 | none =>
  rw [get_none] at b
  cases ha:mu k L with
  | none=>rfl
  | some v =>
   rw [oF d,i.mem_iff] at ha
   obtain ⟨x,j,e⟩:=az.1 ha
   exact absurd (bG Prod.fst e) (b x j)
theorem pQ {l:List K} (h:l.Nodup) {i j:Nat} (b:i<l.length) (d:j<l.length) (e:l[i]=l[j]):i=j :=
 (List.getElem?_inj b h).1 (by rw [aw b,aw d,e])
theorem pD (k:K) (v:Value) {L:List (K×Value)} (r:(L.map (·.1)).Nodup) (x:K×Value):x∈lR k v L↔x=(k,v)∨(x∈L∧x.1≠k):=by
 unfold lR
 cases m:gr k L 0 with
 | none =>
  have ha:=il k L 0 m
  simp only [bQ,aA]
  constructor
  ·rintro (h | h)
   ·exact .inr ⟨h,ha x h⟩
   ·exact .inl h
  ·rintro (h | h)
   ·exact .inr h
   ·exact .inl h.1
 | some y =>
  obtain ⟨j,u⟩:=y
  obtain ⟨-,o⟩:=jg k L 0 j u m
  rw [cG] at o
  obtain ⟨d,l⟩:=aF.1 o
  simp only
  constructor
  ·intro h
   obtain ⟨i,b,e⟩:=cD h
   rw [List.getElem_set] at e
   rw [bU] at b
   split at e
   ·exact .inl e.symm
   ·rename_i q
    refine .inr ⟨e▸cL b,fun hk=>q ?_⟩
    have h1:(L.map (·.1))[j]'(by simpa using d)=k:=by simp [l]
    have h2:(L.map (·.1))[i]'(by simpa using b)=k:=by simp [e,hk]
    exact pQ r _ _ (h1.trans h2.symm)
  ·rintro (h | ⟨h1,h2⟩)
   ·rw [h]
    exact aU (i:=j) (by rw [dT d])
   ·obtain ⟨i,b,rfl⟩:=cD h1
    refine aU (i:=i) ?_
    rw [eo (fun e=>h2 (by subst e;rw [l])),aw b]
theorem Cv (k:K) {L:List (K×Value)} (r:(L.map (·.1)).Nodup) (x:K×Value):x∈uO k L↔x∈L∧x.1≠k:=by
 unfold uO
 cases l:gr k L 0 with
 | none =>
  have ha:=il k L 0 l
  exact ⟨fun h=>⟨h,ha x h⟩,fun h=>h.1⟩
 | some y =>
  obtain ⟨j,u⟩:=y
  obtain ⟨-,m⟩:=jg k L 0 j u l
  rw [cG] at m
  obtain ⟨o,d⟩:=aF.1 m
  simp only
  rw [List.mem_eraseIdx_iff_getElem]
  constructor
  ·rintro ⟨i,b,q,e⟩
   refine ⟨e▸cL b,fun hk=>q ?_⟩
   have h1:(L.map (·.1))[j]'(by simpa using o)=k:=by simp [d]
   have h2:(L.map (·.1))[i]'(by simpa using b)=k:=by simp [e,hk]
   exact (pQ r _ _ (h1.trans h2.symm)).symm
  ·rintro ⟨h1,h2⟩
   obtain ⟨i,b,rfl⟩:=cD h1
   exact ⟨i,b,fun e=>h2 (by subst e;rw [d]),rfl⟩
theorem qf {L:List (K×Value)} (h:(L.map (·.1)).Nodup):L.Nodup:=(dz.1 h).imp fun h e=>h (by rw [e])
section
open Classical in
theorem sq {L M:List (K×Value)} (hl:(L.map (·.1)).Nodup) (hm:(M.map (·.1)).Nodup) (h:∀ x,x∈L↔x∈M):L.Perm M :=
 (cY (qf hl) (qf hm)).2 h
end
theorem fF.keys {w:World} {r:Nat} {L:List (K×Value)} (h:fF w r L):(L.map (·.1)).Nodup:=by
 obtain ⟨_,_,_,_,_,_,hk⟩:=h
 exact hk
section
variable {w:World} {r:Nat} {S:List E} {mt e:TypeId}
theorem TabAt.put (h:TabAt w r S) (j:Tryz.prog.underlying mt=some (.map 94 e)) (k:K) (v:List UInt8) :
  ∃ b,(∀ n,(Instr.mapUpdate mt (.map (some r)) (kV k) (kc v)).run Tryz.prog (w.drewN n) = .ok () (b.drewN n))∧TabAt b r (jS k v S)∧w.grownBy b (some r)∧b.heap.size=w.heap.size:=by
 obtain ⟨hs,L,hm,l⟩:=h
 obtain ⟨b,h1,h2,h3,h4⟩:=hm.update j k (kc v)
 refine ⟨b,h1,⟨sorted_put k v hs,_,h2,sq h2.keys (by rw [qT];exact (sorted_put k v hs).keys) fun x => ?_⟩,h3,h4⟩
 rw [pD k _ hm.keys,l.mem_iff,az,az]
 constructor
 ·rintro (rfl | ⟨⟨y,d,rfl⟩,i⟩)
  ·exact ⟨(k,v),(iY k v S _).2 (.inl rfl),rfl⟩
  ·exact ⟨y,(iY k v S _).2 (.inr ⟨d,i⟩),rfl⟩
 ·rintro ⟨y,d,rfl⟩
  rcases (iY k v S _).1 d with rfl | ⟨h1,h2⟩
  ·exact .inl rfl
  ·exact .inr ⟨⟨y,h1,rfl⟩,h2⟩
theorem TabAt.drop (h:TabAt w r S) (j:Tryz.prog.underlying mt=some (.map 94 e)) (k:K) (t2 ty:TypeId) :
  ∃ b,(∀ n,(Builtin.delete_ #[mt,t2] ty #[.map (some r),kV k]).run Tryz.prog (w.drewN n) = .ok (.tuple #[]) (b.drewN n))∧TabAt b r (ng k S)∧w.grownBy b (some r)∧b.heap.size=w.heap.size:=by
 obtain ⟨hs,L,hm,l⟩:=h
 obtain ⟨b,h1,h2,h3,h4⟩:=hm.delete j k t2 ty
 refine ⟨b,h1,⟨kN k hs,_,h2,sq h2.keys (by rw [qT];exact (kN k hs).keys) fun x => ?_⟩,h3,h4⟩
 rw [Cv k hm.keys,l.mem_iff,az,az]
 constructor
 ·rintro ⟨⟨y,d,rfl⟩,i⟩
  exact ⟨y,(lQ k S _).2 ⟨d,i⟩,rfl⟩
 ·rintro ⟨y,d,rfl⟩
  obtain ⟨h1,h2⟩:=(lQ k S _).1 d
  exact ⟨⟨y,h1,rfl⟩,h2⟩
theorem TabAt.jW (h:TabAt w r S) (b:Tryz.prog.underlying mt=some (.map 94 e)) (d:(zeroValue e).run Tryz.prog w = .ok (kc []) w) (k:K) :
  (Instr.lookup mt (.map (some r)) (kV k) true).run Tryz.prog w = .ok (.tuple #[kc ((jb k S).getD []),.bool (jb k S).isSome]) w:=by
 obtain ⟨hs,L,hm,i⟩:=h
 rw [hm.jW b d k,BW hs hm.keys i]
 cases jb k S <;> rfl
theorem TabAt.lookup (h:TabAt w r S) (b:Tryz.prog.underlying mt=some (.map 94 e)) (d:(zeroValue e).run Tryz.prog w = .ok (kc []) w) (k:K) :
  (Instr.lookup mt (.map (some r)) (kV k) false).run Tryz.prog w = .ok (kc ((jb k S).getD [])) w:=by
 obtain ⟨hs,L,hm,i⟩:=h
 rw [hm.lookup b d k,BW hs hm.keys i]
 cases jb k S <;> rfl
end
theorem k9 {l:List E} (h:((l.map zS).map (·.1)).Nodup):l.Nodup:=by
 rw [qT] at h
 exact (dz.1 h).imp (fun h e=>h (by rw [e]))
theorem uY {x:E} {l:List E} (h:zS x∈l.map zS):x∈l:=by
 obtain ⟨y,b,e⟩:=az.1 h
 rw [←Gi e]
 exact b
theorem qR {l S:List E} (hl:l.Nodup) (d:S.Nodup) (h:(l.map zS).Perm (S.map zS)):l.Perm S :=
 (cY hl d).2 fun x=>⟨fun b=>uY (h.mem_iff.1 (az.2 ⟨x,b,rfl⟩)),fun b=>uY (h.mem_iff.2 (az.2 ⟨x,b,rfl⟩))⟩
theorem rY (t:Int) (l:List E) (x:E):countS t (l++[x])=countS t l+if x.1.1=t then 1 else 0:=by
 unfold countS
 rw [List.countP_append,dX,List.countP_nil]
 simp
theorem sw (t:Int) {l m:List E} (h:l.Perm m):countS t l=countS t m:=h.countP_eq _
theorem uq {l m:List E} (b:l.Nodup) (h:∀ x∈l,x∈m):l.length≤m.length:=by
 classical
 induction l generalizing m with
 | nil=>exact aK _
 | cons x l ih =>
  rw [dj] at b
  have i:=(List.perm_cons_erase (h x (by simp))).length_eq
  have:=ih (m:=m.erase x) b.2 (fun y d=>(List.mem_erase_of_ne (fun e=>b.1 (by rw [←e];exact d))).2 (h y (aR _ d)))
  simp only [ar] at i⊢
  omega
end Go.Proofs.YtkkfmkhbdoeglaaGreatDoor
namespace Go.Proofs.YtkkfmkhbdoeglaaGreatDoor
abbrev qD:=K×Option (List UInt8)
def mH (h w:List E):List E:=h.filter fun x=>(jb x.1 w).isNone
def pZ (h w:List E):List E:=w.filter fun x => !decide (x∈h)
def kX (l:List E):List qD:=l.map fun x=>(x.1,none)
def jU (l:List E):List qD:=l.map fun x=>(x.1,some x.2)
def iQ (h w:List E):List qD:=kX (mH h w)++jU (pZ h w)
def Gk (S:List E) (o:qD):List E:=match o.2 with
 | none=>ng o.1 S
 | some v=>jS o.1 v S
def jw (S:List E) (os:List qD):List E:=os.foldl Gk S
theorem xr (S:List E) (os us:List qD):jw S (os++us)=jw (jw S os) us:=dx
theorem Dj {S:List E} (o:qD) (h:SortedE S):SortedE (Gk S o):=by
 unfold Gk
 split
 ·exact kN _ h
 ·exact sorted_put _ _ h
theorem pA:∀ {S:List E} (os:List qD),SortedE S→SortedE (jw S os)
 | _,[],h=>h
 | _,o::os,h=>pA os (Dj o h)
theorem wC:∀ (l:List E) (S:List E) (x:E),x∈jw S (kX l)↔x∈S∧x.1∉l.map (·.1)
 | [],S,x=>by simp [jw,kX]
 | y::l,S,x=>by
  have ih:=wC l (ng y.1 S) x
  rw [lQ] at ih
  simp only [bg,aT,not_or]
  exact ih.trans ⟨fun h=>⟨h.1.1,h.1.2,h.2⟩,fun h=>⟨⟨h.1,h.2.1⟩,h.2.2⟩⟩
theorem ud:∀ (l:List E) (S:List E) (x:E),(l.map (·.1)).Nodup→(x∈jw S (jU l)↔x∈l∨(x∈S∧x.1∉l.map (·.1)))
 | [],S,x,_=>by simp [jw,jU]
 | y::l,S,x,b=>by
  rw [bg,dj] at b
  have ih:=ud l (jS y.1 y.2 S) x b.2
  rw [iY] at ih
  have e:jw S (jU (y::l))=jw (jS y.1 y.2 S) (jU l):=rfl
  rw [e,ih]
  simp only [bg,aT,not_or]
  constructor
  ·rintro (h | ⟨(h | h),h2⟩)
   ·exact .inl (.inr h)
   ·exact .inl (.inl h)
   ·exact .inr ⟨h.1,h.2,h2⟩
  ·rintro ((h | h) | ⟨h1,h2,h3⟩)
   ·exact .inr ⟨.inl h,by rw [h];exact b.1⟩
   ·exact .inl h
   ·exact .inr ⟨.inr ⟨h1,h2⟩,h3⟩
theorem SortedE.filter {S:List E} (h:SortedE S) (p:E→Bool):SortedE (S.filter p):=List.Pairwise.filter p h
theorem SortedE.take {S:List E} (h:SortedE S) (n:Nat):SortedE (S.take n):=h.sublist (List.take_sublist n S)
theorem SortedE.drop {S:List E} (h:SortedE S) (n:Nat):SortedE (S.drop n):=h.sublist (List.drop_sublist n S)
theorem SortedE.inj {S:List E} (h:SortedE S) {x y:E} (b:x∈S) (d:y∈S) (e:x.1=y.1):x=y:=by
 have h1:=(nj h.keys x.1 x.2).2 b
 have h2:=(nj h.keys y.1 y.2).2 d
 rw [e,h2] at h1
 exact Prod.ext e (Option.some.inj h1).symm
theorem rH {h w:List E} (x:E):x∈mH h w↔x∈h∧x.1∉w.map (·.1):=by
 unfold mH
 rw [cf,Option.isNone_iff_eq_none,get_none]
 refine and_congr_right fun _=>⟨fun H hk => ?_,fun H y b e=>H (az.2 ⟨y,b,e⟩)⟩
 obtain ⟨y,b,e⟩:=az.1 hk
 exact H y b e
theorem lO {h w:List E} (x:E):x∈pZ h w↔x∈w∧x∉h:=by
 unfold pZ
 rw [cf]
 simp
theorem wU (l:List E) (n:Nat):(kX l).take n=kX (l.take n):=(List.map_take ..).symm
theorem zc (l:List E) (n:Nat):(jU l).take n=jU (l.take n):=(List.map_take ..).symm
theorem lh (l:List E):(kX l).length=l.length:=aG _
theorem vB (l:List E):(jU l).length=l.length:=aG _
theorem vX {h w:List E} (hw:SortedE w) (n:Nat) (x:E):x∈jw h ((iQ h w).take n)↔
  x∈(pZ h w).take (n-(mH h w).length)∨(x∈h∧x.1∉((mH h w).take n).map (·.1)∧x.1∉((pZ h w).take (n-(mH h w).length)).map (·.1)):=by
 unfold iQ
 rw [List.take_append,wU,lh,zc,xr,ud _ _ _ ((show SortedE (pZ h w) from hw.filter _).take _).keys,wC]
 rw [and_assoc]
theorem BQ {h w:List E} (m:SortedE h) (hw:SortedE w):jw h (iQ h w)=w:=by
 refine SortedE.ext (pA _ m) hw fun x => ?_
 have:=vX (h:=h) hw (iQ h w).length x
 rw [bp] at this
 rw [this]
 have hl:(iQ h w).length=(mH h w).length+(pZ h w).length:=by unfold iQ;rw [aq,lh,vB]
 rw [aS (by omega),aS (by omega)]
 constructor
 ·rintro (h1 | ⟨h1,h2,h3⟩)
  ·exact ((lO x).1 h1).1
  ·by_cases hk:x.1∈w.map (·.1)
   ·obtain ⟨y,b,e⟩:=az.1 hk
    by_cases i:y∈h
    ·rw [←m.inj i h1 e];exact b
    ·exact absurd (az.2 ⟨y,(lO y).2 ⟨b,i⟩,e⟩) h3
   ·exact absurd (az.2 ⟨x,(rH x).2 ⟨h1,hk⟩,rfl⟩) h2
 ·intro l
  by_cases d:x∈h
  ·refine .inr ⟨d,fun hk => ?_,fun hk => ?_⟩
   ·obtain ⟨y,b,e⟩:=az.1 hk
    exact ((rH y).1 b).2 (by rw [e];exact az.2 ⟨x,l,rfl⟩)
   ·obtain ⟨y,b,e⟩:=az.1 hk
    have j:=(lO y).1 b
    have:=hw.inj j.1 l e
    subst this
    exact j.2 d
  ·exact .inl ((lO x).2 ⟨l,d⟩)
theorem o8 {α:Type} {l m:List α} (b:l.Nodup) (h:∀ x∈l,x∈m):l.length≤m.length:=by
 classical
 induction l generalizing m with
 | nil=>exact aK _
 | cons x l ih =>
  rw [dj] at b
  have i:=(List.perm_cons_erase (h x (by simp))).length_eq
  have:=ih (m:=m.erase x) b.2 (fun y d=>(List.mem_erase_of_ne (fun e=>b.1 (by rw [←e];exact d))).2 (h y (aR _ d)))
  simp only [ar] at i⊢
  omega
theorem nl (t:Int) (S:List E):countS t S=((S.map (·.1)).filter fun k=>decide (k.1=t)).length:=by
 unfold countS
 rw [List.countP_eq_length_filter,List.filter_map,aG]
 rfl
theorem pT {S T:List E} (b:SortedE S) (h:∀ x∈S,x.1∈T.map (·.1)) (t:Int):countS t S≤countS t T:=by
 rw [nl,nl]
 refine o8 (b.keys.filter _) fun k hk => ?_
 rw [cf] at hk⊢
 obtain ⟨x,d,rfl⟩:=az.1 hk.1
 exact ⟨h x d,hk.2⟩
theorem uC {S:List E} {k:K} {v:List UInt8} (d:SortedE S) (hk:jb k S=none):countS k.1 (jS k v S)=countS k.1 S+1:=by
 have j:(jS k v S).Perm (S++[(k,v)]):=by
  refine (cY (sorted_put k v d).nodup ?_).2 fun x => ?_
  ·rw [b9]
   refine ⟨d.nodup,by simp,fun a ha b i e => ?_⟩
   rw [aA] at i
   subst i e
   exact (get_none k).1 hk _ ha rfl
  ·rw [iY,bQ,aA]
   constructor
   ·rintro (h | h)
    ·exact .inr h
    ·exact .inl h.1
   ·rintro (h | h)
    ·exact .inr ⟨h,(get_none k).1 hk x h⟩
    ·exact .inl h
 rw [show countS k.1 (jS k v S)=countS k.1 (S++[(k,v)]) from j.countP_eq _]
 unfold countS
 rw [List.countP_append]
 simp
theorem EU {h w:List E} {room:Int→Nat} (r:SortedE h) (hw:SortedE w) (hc:∀ t,countS t w≤room t) {n:Nat} {k:K} {v:List UInt8} (b:(iQ h w)[n]?=some (k,some v)) :
  (jb k (jw h ((iQ h w).take n))).isSome=true∨countS k.1 (jw h ((iQ h w).take n))<room k.1:=by
 have i:=pA ((iQ h w).take n) r
 have j:(mH h w).length≤n:=by
  refine Nat.le_of_not_lt fun l => ?_
  unfold iQ kX at b
  rw [cE (by rw [aG];exact l),be,aw l] at b
  cases b
 have s:(pZ h w)[n-(mH h w).length]?=some (k,v):=by
  unfold iQ jU at b
  rw [cC (by rw [lh];exact j),be,lh] at b
  cases o:(pZ h w)[n-(mH h w).length]? with
  | none=>rw [o] at b;cases b
  | some x=>rw [o] at b;cases b;rfl
 have q:k∈w.map (·.1):=by
  have hm:(k,v)∈pZ h w:=aU s
  exact az.2 ⟨(k,v),((lO _).1 hm).1,rfl⟩
 have m:∀ x∈jw h ((iQ h w).take n),x.1∈w.map (·.1):=fun x d=>by
  rcases (vX hw n x).1 d with h1 | ⟨h1,h2,-⟩
  ·exact az.2 ⟨x,((lO x).1 (dr h1)).1,rfl⟩
  ·rw [aS j] at h2
   refine ef fun hk=>h2 (az.2 ⟨x,(rH x).2 ⟨h1,hk⟩,rfl⟩)
 cases u:jb k (jw h ((iQ h w).take n)) with
 | some _=>exact .inl rfl
 | none =>
  right
  have h1:=uC (v:=v) i u
  have h2:=pT (sorted_put k v i) (fun x d=>by
   rcases (iY k v _ x).1 d with rfl | ⟨d,-⟩
   ·exact q
   ·exact m x d) k.1
  have h3:=hc k.1
  omega
structure DpS where
 left:Int
 dead:Bool
 room:Nat→Int
 S:List E
 log:List (List UInt8)
def DpS.stop (d:DpS):DpS := {d with left:=if 0<d.left then d.left-1 else d.left,dead:=d.dead || decide (d.left=0)}
def DpS.uL (d:DpS) (t:Int):Int:=if 0≤t∧t<3 then d.room t.toNat else 0
def lr (t:Int):UInt8:=UInt8.ofNat (t%256).toNat
def nI (k:K):List UInt8:=[100,114,111,112,32]++[lr k.1]++k.2
def ri (k:K) (v:List UInt8):List UInt8:=[112,117,116,32]++[lr k.1]++k.2++[61]++v
def kH:List UInt8:=[110,111,32,114,111,111,109]
def px (o:qD):List UInt8:=match o.2 with
 | none=>nI o.1
 | some v=>ri o.1 v
def DpS.kT (d:DpS) (k:K):Bool:=(jb k d.S).isSome || decide ((countS k.1 d.S:Int)<d.uL k.1)
def DpS.put (d:DpS) (k:K) (v:List UInt8):DpS :=
 if d.stop.dead then d.stop
 else if d.kT k then {d.stop with S:=jS k v d.S,log:=d.log++[ri k v]}
 else {d.stop with log:=d.log++[ri k v]++[kH]}
def DpS.drop (d:DpS) (k:K):DpS:=if d.stop.dead then d.stop else {d.stop with S:=ng k d.S,log:=d.log++[nI k]}
def DpS.step (d:DpS) (o:qD):DpS:=match o.2 with
 | none=>d.drop o.1
 | some v=>d.put o.1 v
def DpS.run (d:DpS) (os:List qD):DpS:=os.foldl DpS.step d
theorem DpS.qW (d:DpS) (os:List qD) (o:qD):d.run (os++[o])=(d.run os).step o:=dx
def DpS.xA (d:DpS) (os:List qD) (j:Nat):DpS :=
 if d.left<0 then {d with S:=jw d.S (os.take j),log:=d.log++(os.take j).map px}
 else {d with left:=d.left-(min d.left.toNat j:Nat),dead:=decide (d.left<j),S:=jw d.S (os.take (min d.left.toNat j)),log:=d.log++(os.take (min d.left.toNat j)).map px}
theorem lA {α:Type} (l:List α) (j:Nat) {x : α} (h:l[j]?=some x):l.take (j+1)=l.take j++[x]:=by
 obtain ⟨b,rfl⟩:=aF.1 h
 exact aW b
theorem DpS.vY (d:DpS) (o:qD) (hs:d.stop.dead=false) (b:∀ v,o.2=some v→d.kT o.1=true):d.step o = {d.stop with S:=Gk d.S o,log:=d.log++[px o]} := by
 obtain ⟨k,v⟩:=o
 cases v with
 | none =>
  unfold DpS.step DpS.drop Gk px
  simp only [hs]
  rfl
 | some v =>
  have:=b v rfl
  unfold DpS.step DpS.put Gk px
  simp only [hs,this]
  rfl
theorem DpS.wu (d:DpS) (o:qD) (hs:d.stop.dead=true):d.step o=d.stop:=by
 obtain ⟨k,v⟩:=o
 cases v with
 | none =>
  unfold DpS.step DpS.drop
  simp only [hs]
  rfl
 | some v =>
  unfold DpS.step DpS.put
  simp only [hs]
  rfl
theorem uD (S:List E) (os:List qD) (o:qD):jw S (os++[o])=Gk (jw S os) o:=dx
theorem DpS.yt (d:DpS) (w:List E) (hd:d.dead=false) (q:SortedE d.S) (hw:SortedE w) (hk:∀ x∈w,0≤x.1.1∧x.1.1<3) (hc:∀ t:Nat,t<3→(countS t w:Int)≤d.room t) :
  ∀ j,j≤(iQ d.S w).length→d.run ((iQ d.S w).take j)=d.xA (iQ d.S w) j
 | 0,_=>by
  unfold DpS.xA
  simp only [bY,Nat.min_zero,di,cZ]
  split
  ·rfl
  ·rw [show decide (d.left<((0:Nat):Int))=false by simp;omega,←hd]
   simp [DpS.run,jw]
 | j+1,C=>by
  obtain ⟨o,l⟩:∃ o,(iQ d.S w)[j]?=some o:=⟨_,aw (by omega)⟩
  have b:∀ v,o.2=some v→∀ L D G,({d with S:=jw d.S ((iQ d.S w).take j),log:=L,left:=G,dead:=D} : DpS).kT o.1=true:=fun v i L D G=>by
   have m:(iQ d.S w)[j]?=some (o.1,some v):=by rw [l,←i]
   have hm:=aU m
   have r:0≤o.1.1∧o.1.1<3:=by
    unfold iQ at hm
    rw [bQ] at hm
    rcases hm with hm | hm
    ·obtain ⟨x,-,e⟩:=az.1 hm
     injection e with s u
     cases u
    ·obtain ⟨x,y,e⟩:=az.1 hm
     injection e with s u
     rw [←s]
     exact hk x ((lO x).1 y).1
   have:=EU (room:=fun t=>countS t w) q hw (fun _=>af _) m
   unfold DpS.kT DpS.uL
   rw [dE]
   refine this.imp id fun h => ?_
   have h3:=hc o.1.1.toNat (by omega)
   rw [show ((o.1.1.toNat:Nat):Int)=o.1.1 by omega] at h3
   rw [aB r,de]
   show ((countS o.1.1 (jw d.S ((iQ d.S w).take j)):Nat):Int)<d.room o.1.1.toNat
   omega
  rw [lA _ _ l,DpS.qW,DpS.yt d w hd q hw hk hc j (by omega)]
  unfold DpS.xA
  by_cases hl:d.left<0
  ·rw [aB hl,aB hl,DpS.vY _ _ (by unfold DpS.stop;simp [hd];omega) (fun v i=>b v i _ _ _),lA _ _ l,uD,bA]
   unfold DpS.stop
   simp only [hd,DpS.mk.injEq,bg,di,bq,and_true]
   refine ⟨by rw [au (by omega)],?_⟩
   simp
   omega
  ·rw [au hl,au hl]
   by_cases B:j<d.left.toNat
   ·rw [show min d.left.toNat j=j by omega,show min d.left.toNat (j+1)=j+1 by omega,DpS.vY _ _ (by unfold DpS.stop;simp;omega) (fun v i=>b v i _ _ _),lA _ _ l,uD,bA]
    unfold DpS.stop
    simp only [DpS.mk.injEq,bg,di,bq,and_true]
    refine ⟨by rw [aB (by omega)];omega,?_⟩
    rw [dD]
    simp
    omega
   ·rw [show min d.left.toNat j=d.left.toNat by omega,show min d.left.toNat (j+1)=d.left.toNat by omega,DpS.wu _ _ (by unfold DpS.stop;simp;omega)]
    unfold DpS.stop
    simp only [DpS.mk.injEq,and_true]
    refine ⟨by rw [au (by omega)],?_⟩
    rw [dD]
    simp
    omega
end Go.Proofs.YtkkfmkhbdoeglaaGreatDoor
