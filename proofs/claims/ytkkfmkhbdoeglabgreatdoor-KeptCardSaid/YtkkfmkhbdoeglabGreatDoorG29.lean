/- A part of what is proved here: lemmas and contracts of single functions. No condition but those that each names. -/
import Derived.Test.YtkkfmkhbdoeglabGreatDoorG00
import Derived.Deep.DeepCutAuto
import Derived.Deep.RegionWith
import Derived.Test.YtkkfmkhbdoeglabGreatDoorG03
import Derived.Test.YtkkfmkhbdoeglabGreatDoorG09
import Derived.Test.YtkkfmkhbdoeglabGreatDoorG13
import Derived.Test.YtkkfmkhbdoeglabGreatDoorG14
import Derived.Test.YtkkfmkhbdoeglabGreatDoorG20
import Derived.Test.YtkkfmkhbdoeglabGreatDoorG25
import Derived.Test.YtkkfmkhbdoeglabGreatDoorG26
import Derived.Test.YtkkfmkhbdoeglabGreatDoorG27
import Derived.Test.YtkkfmkhbdoeglabGreatDoorG28
namespace Go.Proofs.YtkkfmkhbdoeglabGreatDoor
open Go.RowKit
theorem ix.take {w:World} {a:Option Addr} {n cap:Nat} {os:List OpB} (h:ix w (.slice a n cap) os) (k:Nat) (hk:k≤os.length):ix w (.slice a k cap) (os.take k):=by
 obtain ⟨hl,r,cap',he,hc,q⟩:=h
 cases he
 have m:(os.take k).length=k:=by rw [az];omega
 have j:gx os=gx (os.take k)++gx (os.drop k):=by rw [←nT,cw]
 refine ⟨jw _,a,cap,by rw [m],by omega,fun i o => ?_⟩
 have l:i<(gx os).length:=by rw [j,aq];omega
 obtain ⟨b,off,rfl,d⟩:=q i l
 refine ⟨b,off,rfl,?_⟩
 rw [d]
 congr 1
 have:(gx os)[i]?=(gx (os.take k))[i]?:=by rw [j,cG o]
 rw [ay l,ay o] at this
 exact Option.some.inj this
end Go.Proofs.YtkkfmkhbdoeglabGreatDoor
namespace Go.Proofs.YtkkfmkhbdoeglabGreatDoor
open Go.RowKit
theorem lN {v:Nat} {os:List OpB} (h:gK v os=none):9≤(jb v os).length∧(jb v os).length≤200:=by
 have i:os.length≤8∧gi 0 [] os=none:=by
  unfold gK at h
  split at h
  ·cases h
  ·split at h
   ·cases h
   ·rename_i h1 h2;exact ⟨by omega,h⟩
 have b:∀ o∈os,(gS o).length≤12:=by
  intro o j
  obtain ⟨k,hk,rfl⟩:=cF j
  obtain ⟨l,d⟩:=jl os 0 [] i.2 k hk
  exact (pC d).1
 have:=Aw v os os.length b
 rw [yc] at this
 refine ⟨by simp [jb,be8];omega,by omega⟩
end Go.Proofs.YtkkfmkhbdoeglabGreatDoor
namespace Go.Proofs.YtkkfmkhbdoeglabGreatDoor
def DpS.Same (d d':DpS):Prop:=d'.S=d.S∧d'.log=d.log∧d'.room=d.room
theorem DpS.Same.refl (d:DpS):d.Same d:=⟨rfl,rfl,rfl⟩
theorem DpS.Same.trans {a b c:DpS} (h:a.Same b) (k:b.Same c):a.Same c:=⟨k.1.trans h.1,k.2.1.trans h.2.1,k.2.2.trans h.2.2⟩
theorem mB (d:DpS):d.Same d.stop:=⟨rfl,rfl,rfl⟩
theorem nJ {d:DpS} (h:d.dead=true):d.stop.dead=true:=by
 unfold DpS.stop
 simp [h]
structure Jb (ps:List (List UInt8)) (at':Nat) (H H1:fP) (r:Option Nat):Prop where
 held:H1.held=H.held
 dp:H.dp.Same H1.dp
 late:∃ m,m≤ps.length∧H1.late=H.late++(ps.take m).zipIdx at'∧(r=none→H1.dp.dead=false→m=ps.length∧H1.seen=applySel (fun _=>true) 0 (ps.zipIdx at') H.seen)
 gone:H.dp.dead=true→H1.dp.dead=true∧H1.late=H.late
 err:∀ f,r=some f→1≤f∧0≤H.fail
 fail:0≤H1.fail→0≤H.fail
 len:H1.seen.length=H.seen.length
theorem kh {H:fP} (h:0≤H.asked.fail):0≤H.fail:=by
 unfold fP.asked at h
 simp only at h
 split at h <;> omega
theorem tB {H:fP} (h:H.gW=true):0≤H.fail:=by
 unfold fP.gW at h
 have:=dE h
 omega
theorem E3 {α:Type} (l:List (α×Nat)) (d:List α) (k j:Nat):applySel (fun _=>true) k l d=applySel (fun _=>true) j l d:=by
 induction l generalizing d k j with
 | nil=>rfl
 | cons x l ih =>
  obtain ⟨p,n⟩:=x
  unfold applySel
  exact ih _ _ _
theorem qD:∀ (ps:List (List UInt8)) (H:fP) (at':Nat),Jb ps at' H (gH ps H at').1 (gH ps H at').2
 | [],H,at'=>⟨rfl,.refl _,⟨0,af _,by simp [gH],fun _ _=>⟨rfl,rfl⟩⟩,fun h=>⟨h,rfl⟩,fun f h=>(by cases h),id,rfl⟩
 | s::ps,H,at'=>by
  unfold gH
  rcases cA H.gW with j | j
  ·have e:H.write at' s=(H.asked,some (at'+2)):=by unfold fP.write;rw [aD j]
   rw [e]
   exact ⟨rfl,.refl _,⟨0,aM _,by simp [fP.asked],fun h=>by cases h⟩,fun h=>⟨h,rfl⟩,fun f h=>(by cases h;exact ⟨by omega,tB j⟩),kh,rfl⟩
  ·obtain ⟨d,b⟩:∃ d:fP,d = {H.asked with writes:=H.writes+1,seen:=H.seen.set at' s,dp:=H.dp.stop,late:=if H.dp.stop.dead then H.late else H.late++[(s,at')]} := ⟨_,rfl⟩
   have e:H.write at' s=(d,none):=by unfold fP.write;rw [au (by rw [j];decide),b]
   rw [e]
   simp only
   obtain ⟨h1,h2,⟨m,hm,hl,hd⟩,h4,h5,h6,h7⟩:=qD ps d (at'+1)
   have a1:d.held=H.held:=by rw [b];rfl
   have a2:d.dp=H.dp.stop:=by rw [b]
   have a3:d.seen=H.seen.set at' s:=by rw [b]
   have a4:d.fail=H.asked.fail:=by rw [b]
   have a5:d.late=if H.dp.stop.dead then H.late else H.late++[(s,at')]:=by rw [b]
   rcases cA H.dp.stop.dead with hs | hs
   ·obtain ⟨g1,g2⟩:=h4 (by rw [a2];exact hs)
    rw [hs,aD rfl] at a5
    refine ⟨h1.trans a1,(mB _).trans (a2▸h2),⟨0,aM _,by rw [g2,a5];simp,fun i hdd => ?_⟩,fun _=>⟨g1,g2.trans a5⟩,fun f i=>⟨(h5 f i).1,kh (a4▸(h5 f i).2)⟩,fun h=>kh (a4▸h6 h),by rw [h7,a3,bW]⟩
    rw [hdd] at g1
    cases g1
   ·rw [hs,au (by decide)] at a5
    refine ⟨h1.trans a1,(mB _).trans (a2▸h2),⟨m+1,by rw [ar];omega,by rw [hl,a5,bA,List.zipIdx_cons,bj];rfl,fun i hdd => ?_⟩,fun h => ?_,fun f i=>⟨(h5 f i).1,kh (a4▸(h5 f i).2)⟩,fun h=>kh (a4▸h6 h),by rw [h7,a3,bW]⟩
    ·obtain ⟨l,o⟩:=hd i hdd
     refine ⟨by rw [l];rfl,?_⟩
     rw [o,a3,List.zipIdx_cons]
     exact E3 _ _ 0 1
    ·rw [nJ h] at hs
     cases hs
structure DiskUp (n:Nat) (H:fP) (g:LogS) (v:Nat) (T:List E):Prop where
 seen:H.seen=H.held
 late:H.late=[]
 len:H.held.length=n
 stamps:stampsLe H.held g.stamp
 inv:DiskInv decSB decDB foldS [] (H.held.map parseSec) (placeOf n) g.slot v T g.next
 next:g.next≤n
 dead:H.dp.dead=false
structure lK (n:Nat) (d:List (List UInt8)) (s v:Nat) (T:List E):Prop where
 len:d.length=n
 stamps:stampsLe d s
 inv:∃ slot next,next≤n∧DiskInv decSB decDB foldS [] (d.map parseSec) (placeOf n) slot v T next
def May (n:Nat) (H:fP) (s:Nat) (C:Nat→List E→Prop):Prop:=∀ b,∃ v T,C v T∧lK n (applySel b 0 H.late H.held) s v T
theorem stampsLe.mono {d:List (List UInt8)} {s t:Nat} (h:stampsLe d s) (hs:s≤t):stampsLe d t:=fun b i=>aH (h b i) hs
theorem lK.mono {n:Nat} {d:List (List UInt8)} {s t v:Nat} {T:List E} (h:lK n d s v T) (hs:s≤t):lK n d t v T:=⟨h.len,h.stamps.mono hs,h.inv⟩
theorem May.mono {n:Nat} {H:fP} {s t:Nat} {C D:Nat→List E→Prop} (h:May n H s C) (hs:s≤t) (d:∀ v T,C v T→D v T):May n H t D:=fun b=>by
 obtain ⟨v,T,h1,h2⟩:=h b
 exact ⟨v,T,d v T h1,h2.mono hs⟩
theorem DiskUp.image {n:Nat} {H:fP} {g:LogS} {v:Nat} {T:List E} (h:DiskUp n H g v T):lK n H.held g.stamp v T:=⟨h.len,h.stamps,_,_,h.next,h.inv⟩
theorem DiskUp.may {n:Nat} {H:fP} {g:LogS} {v:Nat} {T:List E} (h:DiskUp n H g v T):May n H g.stamp (fun w U=>w=v∧U=T):=fun b=>⟨v,T,⟨rfl,rfl⟩,by rw [h.late];exact h.image⟩
structure Fz (ps:List (List UInt8)) (at':Nat) (H H1:fP) (r:Option Nat):Prop where
 dp:H.dp.Same H1.dp
 good:r=none→H1.dp.dead=false→H1.held=applySel (fun _=>true) 0 (ps.zipIdx at') H.held∧H1.seen=H1.held∧H1.late=[]
 bad:(∃ f,r=some f)∨H1.dp.dead=true→H1.held=H.held∧∃ m,H1.late=(ps.take m).zipIdx at'
 err:∀ f,r=some f→1≤f∧0≤H.fail
 fail:0≤H1.fail→0≤H.fail
 len:H1.seen.length=H.seen.length
theorem xH {H:fP} (g:LogS) (at':Nat) (data:List UInt8) (h1:H.seen=H.held) (h2:H.late=[]):Fz (gA (g.stamp+1) data) at' H (fV H g at' data).1 (fV H g at' data).2:=by
 unfold fV
 obtain ⟨w1,w2,⟨m,hm,hl,hd⟩,o,w5,b,d⟩:=qD (gA (g.stamp+1) data) H at'
 generalize gH (gA (g.stamp+1) data) H at'=q at *
 obtain ⟨H1,r⟩:=q
 rw [h2,aO] at hl
 cases r with
 | some f=>exact ⟨w2,fun h=>(by cases h),fun _=>⟨w1,m,hl⟩,w5,b,d⟩
 | none =>
  show Fz _ _ _ H1.flush.1 H1.flush.2
  unfold fP.flush
  rcases cA H1.gW with i | i
  ·rw [aD i]
   exact ⟨w2,fun h=>(by cases h),fun _=>⟨w1,m,hl⟩,fun f h=>(by cases h;exact ⟨af _,b (tB i)⟩),fun h=>b (kh h),d⟩
  ·rw [au (by rw [i];decide)]
   rcases cA H1.dp.stop.dead with hs | hs
   ·rw [aD hs]
    refine ⟨w2.trans (mB _),fun _ h => ?_,fun _=>⟨w1,m,hl⟩,fun f h=>(by cases h),fun h=>b (kh h),d⟩
    rw [show ({H1.asked with dp:=H1.dp.stop} : fP).dp.dead=H1.dp.stop.dead from rfl,hs] at h
    cases h
   ·rw [au (by rw [hs];decide)]
    have hdd:H1.dp.dead=false:=by
     rcases cA H1.dp.dead with h | h
     ·rw [nJ h] at hs;cases hs
     ·exact h
    obtain ⟨j,l⟩:=hd rfl hdd
    rw [j,bC] at hl
    refine ⟨w2.trans (mB _),fun _ _=>⟨?_,?_,rfl⟩,fun h => ?_,fun f h=>(by cases h),fun h=>b (kh h),d⟩
    ·show applySel (fun _=>true) 0 H1.late H1.held=_
     rw [hl,w1]
    ·show H1.seen=applySel (fun _=>true) 0 H1.late H1.held
     rw [hl,w1,l,h1]
    ·rcases h with ⟨f,h⟩ | h
     ·cases h
     ·rw [show ({H1.asked with dp:=H1.dp.stop,held:=applySel (fun _=>true) 0 H1.late H1.held,late:=[]} : fP).dp.dead=H1.dp.stop.dead from rfl,hs] at h
      cases h
theorem vP {l:List UInt8} {v:Nat} {os:List OpB} (h:pt l = .inl (v,os)):decDB l=some (v,os):=by unfold decDB;rw [h]
theorem Ck {l:List UInt8} {v:Nat} {S:List E} (h:iG l = .inl (v,S)):decSB l=some (v,S):=by unfold decSB;rw [h]
structure Step (j n:Nat) (H:fP) (g:LogS) (v:Nat) (T:List E) (v':Nat) (T':List E) (H1:fP) (g1:LogS) (r:Option Nat):Prop where
 dp:H.dp.Same H1.dp
 good:r=none→H1.dp.dead=false→DiskUp n H1 g1 v' T'
 may:May n H1 (g.stamp+j) (fun w U=>(w=v∧U=T)∨(w=v'∧U=T'))
 stamp:g1.stamp≤g.stamp+j
 err:∀ f,r=some f→1≤f∧0≤H.fail
 fail:0≤H1.fail→0≤H.fail
theorem mapped {d:List (List UInt8)} {ps:List (List UInt8)} {at' m:Nat} (b:Nat→Bool):(applySel b 0 ((ps.take m).zipIdx at') d).map parseSec=applySel b 0 (((ps.map parseSec).take m).zipIdx at') (d.map parseSec):=by
 rw [sg]
 congr 1
 rw [←List.map_take,List.zipIdx_map]
 rfl
theorem wU {s:Nat} {data:List UInt8} (hs:s<18446744073709551616) (b:0<data.length) (d:partsOf data.length<256):oO s ((gA s data).map parseSec) data∧((gA s data).map parseSec).length=partsOf data.length :=
 ⟨Da hs b d,by rw [aG,jd]⟩
theorem uj {n:Nat} {H:fP} {g:LogS} {v:Nat} {T:List E} {data:List UInt8} {os:List OpB} (h:DiskUp n H g v T) (hs:g.stamp+1<18446744073709551616) (j:0<data.length) (l:partsOf data.length<256) (m:g.next+partsOf data.length≤n) (hd:pt data = .inl (v+1,os))
  {d':List (List UInt8)} (b:stampsLe d' (g.stamp+1)) (hlen:d'.length=n) (hm:nd (H.held.map parseSec) (d'.map parseSec) g.next ((gA (g.stamp+1) data).map parseSec)) :
  (lD (d'.map parseSec) g.next ((gA (g.stamp+1) data).map parseSec)→DiskInv decSB decDB foldS [] (d'.map parseSec) (placeOf n) g.slot (v+1) (foldS T os) (g.next+partsOf data.length))∧(lK n d' (g.stamp+1) v T∨lK n d' (g.stamp+1) (v+1) (foldS T os)):=by
 obtain ⟨o,q⟩:=wU hs j l
 obtain ⟨d,r⟩:=h.inv.delta hm o h.stamps.fresh (by omega) (vP hd)
 rw [q] at d
 refine ⟨d,?_⟩
 by_cases i:lD (d'.map parseSec) g.next ((gA (g.stamp+1) data).map parseSec)
 ·exact .inr ⟨hlen,b,_,_,m,d i⟩
 ·exact .inl ⟨hlen,b,_,_,h.next,r i⟩
theorem uk {n:Nat} {H:fP} {g:LogS} {v v':Nat} {T T':List E} {data:List UInt8} (h:DiskUp n H g v T) (hs:g.stamp+1<18446744073709551616) (m:0<data.length) (o:partsOf data.length<256) (d:partsOf data.length≤placeOf n) (i:2*placeOf n≤n) (hd:iG data = .inl (v',T'))
  {d':List (List UInt8)} (b:stampsLe d' (g.stamp+1)) (hlen:d'.length=n) (hm:nd (H.held.map parseSec) (d'.map parseSec) ((1-g.slot)*placeOf n) ((gA (g.stamp+1) data).map parseSec)) :
  (lD (d'.map parseSec) ((1-g.slot)*placeOf n) ((gA (g.stamp+1) data).map parseSec)→DiskInv decSB decDB foldS [] (d'.map parseSec) (placeOf n) (1-g.slot) v' T' (2*placeOf n))∧(lK n d' (g.stamp+1) v T∨lK n d' (g.stamp+1) v' T'):=by
 obtain ⟨q,r⟩:=wU hs m o
 obtain ⟨j,s⟩:=h.inv.state hm q (by rw [r];exact d) (by rw [aG,h.len];exact i) h.stamps.fresh (by omega) (Ck hd)
 refine ⟨j,?_⟩
 by_cases l:lD (d'.map parseSec) ((1-g.slot)*placeOf n) ((gA (g.stamp+1) data).map parseSec)
 ·exact .inr ⟨hlen,b,_,_,i,j l⟩
 ·exact .inl ⟨hlen,b,_,_,h.next,s l⟩
theorem xm {n:Nat} {H:fP} {g:LogS} {v v':Nat} {T T':List E} {data:List UInt8} {at':Nat} (h:DiskUp n H g v T) (hs:g.stamp+1<18446744073709551616) (x:partsOf data.length<256) (j:at'+partsOf data.length≤n)
  (l:∀ d':List (List UInt8),stampsLe d' (g.stamp+1)→d'.length=n→nd (H.held.map parseSec) (d'.map parseSec) at' ((gA (g.stamp+1) data).map parseSec)→(lK n d' (g.stamp+1) v T∨lK n d' (g.stamp+1) v' T')) :
  H.dp.Same (fV H g at' data).1.dp∧((fV H g at' data).2=none→(fV H g at' data).1.dp.dead=false→(fV H g at' data).1.held=applySel (fun _=>true) 0 ((gA (g.stamp+1) data).zipIdx at') H.held∧(fV H g at' data).1.seen=(fV H g at' data).1.held∧(fV H g at' data).1.late=[]∧(fV H g at' data).1.held.length=n∧stampsLe (fV H g at' data).1.held (g.stamp+1)∧
    nd (H.held.map parseSec) ((fV H g at' data).1.held.map parseSec) at' ((gA (g.stamp+1) data).map parseSec)∧lD ((fV H g at' data).1.held.map parseSec) at' ((gA (g.stamp+1) data).map parseSec))∧
   (∀ b,lK n (applySel b 0 (fV H g at' data).1.late (fV H g at' data).1.held) (g.stamp+1) v T∨lK n (applySel b 0 (fV H g at' data).1.late (fV H g at' data).1.held) (g.stamp+1) v' T')∧
   (∀ f,(fV H g at' data).2=some f→1≤f∧0≤H.fail)∧(0≤(fV H g at' data).1.fail→0≤H.fail)∧(fV H g at' data).1.seen.length=n:=by
 obtain ⟨s1,s2,y,B,C,D⟩:=xH g at' data h.seen h.late
 generalize fV H g at' data=q at *
 obtain ⟨H1,r⟩:=q
 simp only at *
 have o:(gA (g.stamp+1) data).length=partsOf data.length:=jd _ _
 have i:∀ b m,stampsLe (applySel b 0 (((gA (g.stamp+1) data).take m).zipIdx at') H.held) (g.stamp+1)∧(applySel b 0 (((gA (g.stamp+1) data).take m).zipIdx at') H.held).length=n∧nd (H.held.map parseSec) ((applySel b 0 (((gA (g.stamp+1) data).take m).zipIdx at') H.held).map parseSec) at' ((gA (g.stamp+1) data).map parseSec):=fun b m=>by
  refine ⟨h.stamps.apply hs x b m at' (by rw [h.len];exact j),by rw [ka,h.len],?_⟩
  rw [mapped]
  exact AZ b (by rw [aG,aG,o,h.len];exact j)
 refine ⟨s1,fun s hdd => ?_,fun b => ?_,B,C,?_⟩
 ·obtain ⟨g1,g2,g3⟩:=s2 s hdd
  have:=i (fun _=>true) (gA (g.stamp+1) data).length
  rw [bC,←g1] at this
  refine ⟨g1,g2,g3,this.2.1,this.1,this.2.2,?_⟩
  have e:=mapped (d:=H.held) (ps:=gA (g.stamp+1) data) (at':=at') (m:=(gA (g.stamp+1) data).length) (fun _=>true)
  rw [bC,←g1] at e
  rw [e,show (gA (g.stamp+1) data).length=((gA (g.stamp+1) data).map parseSec).length by rw [aG],bC]
  exact CH (by rw [aG,aG,o,h.len];exact j)
 ·by_cases u:(∃ f,r=some f)∨H1.dp.dead=true
  ·obtain ⟨g1,m,g2⟩:=y u
   rw [g1,g2]
   obtain ⟨m1,m2,m3⟩:=i b m
   exact l _ m1 m2 m3
  ·have s:r=none:=by
    cases r with
    | none=>rfl
    | some f=>exact absurd (.inl ⟨f,rfl⟩) u
   have hdd:H1.dp.dead=false:=by
    rcases cA H1.dp.dead with e | e
    ·exact absurd (.inr e) u
    ·exact e
   obtain ⟨g1,g2,g3⟩:=s2 s hdd
   rw [g3]
   have:=i (fun _=>true) (gA (g.stamp+1) data).length
   rw [bC,←g1] at this
   exact l _ this.1 this.2.1 this.2.2
 ·rw [D,h.seen,h.len]
theorem yq {n:Nat} {H:fP} {g:LogS} {v:Nat} {T:List E} {data:List UInt8} {os:List OpB} (h:DiskUp n H g v T) (hs:g.stamp+1<18446744073709551616) (l:0<data.length) (j:partsOf data.length<256) (i:g.next+partsOf data.length≤n) (hd:pt data = .inl (v+1,os)) :
  Step 1 n H g v T (v+1) (foldS T os) (gM H g data).1 (gM H g data).2.1 (gM H g data).2.2:=by
 obtain ⟨w1,w2,w3,m,w5,s⟩:=xm (at':=g.next) (data:=data) (v':=v+1) (T':=foldS T os) h hs j i (fun d' a b c=>(uj h hs l j i hd a b c).2)
 unfold gM
 generalize fV H g g.next data=q at *
 obtain ⟨H1,r⟩:=q
 have d:May n H1 (g.stamp+1) (fun w U=>(w=v∧U=T)∨(w=v+1∧U=foldS T os)):=fun o=>by
  rcases w3 o with k | k
  ·exact ⟨v,T,.inl ⟨rfl,rfl⟩,k⟩
  ·exact ⟨v+1,_,.inr ⟨rfl,rfl⟩,k⟩
 cases r with
 | some f=>exact ⟨w1,fun e=>(by cases e),d,by show g.stamp+1≤_;omega,m,w5⟩
 | none =>
  refine ⟨w1,fun _ hdd => ?_,d,by show g.stamp+1≤_;omega,m,w5⟩
  obtain ⟨g1,g2,g3,g4,g5,g6,g7⟩:=w2 rfl hdd
  exact ⟨g2,g3,g4,g5,(uj h hs l j i hd g5 g4 g6).1 g7,i,hdd⟩
theorem yi {n:Nat} {H:fP} {g:LogS} {v v':Nat} {T T':List E} (h:DiskUp n H g v T) (j:32≤n∧n≤128) (hs:g.stamp+1<18446744073709551616) (l:0<(gX v' T').length) (m:(gX v' T').length≤10+16*(n-8)) (hd:iG (gX v' T') = .inl (v',T')) :
  Step 1 n H g v T v' T' (gd H g v' T').1 (gd H g v' T').2.1 (gd H g v' T').2.2∧((gd H g v' T').2.2=none→(gd H g v' T').1.dp.dead=false→(gd H g v' T').2.1.next=2*placeOf n∧(gd H g v' T').2.1.stamp=g.stamp+1)∧(gd H g v' T').2.1.stamp=g.stamp+1:=by
 have x:=jq j.1 j.2
 have i:=mR m
 have y:=h.inv.zt.2
 have o:(1-g.slot)*placeOf n+partsOf (gX v' T').length≤n:=by
  obtain e | e:g.slot=0∨g.slot=1:=by omega
  ·rw [e];omega
  ·rw [e];omega
 obtain ⟨w1,w2,w3,s,w5,B⟩:=xm (at':=(1-g.slot)*placeOf n) (data:=gX v' T') (v':=v') (T':=T') h hs (by omega) o (fun d' a b c=>(uk h hs l (by omega) i (by omega) hd a b c).2)
 have hlen:H.seen.length=n:=by rw [h.seen,h.len]
 unfold gd
 rw [hlen]
 generalize fV H g ((1-g.slot)*placeOf n) (gX v' T')=q at *
 obtain ⟨H1,r⟩:=q
 have d:May n H1 (g.stamp+1) (fun w U=>(w=v∧U=T)∨(w=v'∧U=T')):=fun u=>by
  rcases w3 u with k | k
  ·exact ⟨v,T,.inl ⟨rfl,rfl⟩,k⟩
  ·exact ⟨v',_,.inr ⟨rfl,rfl⟩,k⟩
 cases r with
 | some f=>exact ⟨⟨w1,fun e=>(by cases e),d,by show g.stamp+1≤_;omega,s,w5⟩,fun e=>(by cases e),rfl⟩
 | none =>
  refine ⟨⟨w1,fun _ hdd => ?_,d,by show g.stamp+1≤_;omega,s,w5⟩,fun _ _=>⟨rfl,rfl⟩,rfl⟩
  obtain ⟨g1,g2,g3,g4,g5,g6,g7⟩:=w2 rfl hdd
  exact ⟨g2,g3,g4,g5,(uk h hs l (by omega) i (by omega) hd g5 g4 g6).1 g7,by show 2*placeOf n≤n;omega,hdd⟩
theorem DiskInv.zero {d:List Part} {p slot:Nat} {T:List E} {next:Nat} (h:DiskInv decSB decDB foldS [] d p slot 0 T next):next=2*p:=by
 obtain ⟨b,v0,i,l,j,m,hc,-⟩:=h
 have h1:=hc.pos.2.2.1
 have h2:l=[]:=bK (by omega)
 subst h2
 cases hc
 rfl
theorem Gz {n:Nat} {H:fP} {g:LogS} {v:Nat} {T:List E} {data:List UInt8} {os:List OpB} (h:DiskUp n H g v T) (s:32≤n∧n≤128) (hs:g.stamp+2<18446744073709551616) (y:0<data.length) (R:data.length≤700) (hd:pt data = .inl (v+1,os))
  (ha:v≠0→0<(gX v T).length∧(gX v T).length≤10+16*(n-8)∧iG (gX v T) = .inl (v,T)) :
  Step 2 n H g v T (v+1) (foldS T os) (gY H g data v T).1 (gY H g data v T).2.1 (gY H g data v T).2.2:=by
 have M:=jq s.1 s.2
 have N:partsOf data.length≤14:=by unfold partsOf;omega
 have hlen:H.seen.length=n:=by rw [h.seen,h.len]
 unfold gY
 rw [hlen]
 by_cases l:n<g.next+partsOf data.length
 ·rw [aD l]
  have G:v≠0:=fun e=>by
   subst e
   have:=h.inv.zero
   omega
  obtain ⟨a1,a2,a3⟩:=ha G
  obtain ⟨k,B,I⟩:=yi h s (by omega) a1 a2 a3
  generalize gd H g v T=q at *
  obtain ⟨H1,g1,r⟩:=q
  simp only at k B I
  cases r with
  | some f =>
   exact ⟨k.dp,fun e=>(by cases e),k.may.mono (dK _) fun w U h => .inl (h.elim id id),by show g1.stamp≤_;omega,k.err,k.fail⟩
  | none =>
   show Step 2 n H g v T (v+1) (foldS T os) (gM H1 g1 data).1 (gM H1 g1 data).2.1 (gM H1 g1 data).2.2
   rcases cA H1.dp.dead with hdd | hdd
   ·
    have hm:=k.may.mono (dK _) (fun _ _ h=>h)
    have hw:=qD (gA (g1.stamp+1) data) H1 g1.next
    unfold gM fV
    generalize gH (gA (g1.stamp+1) data) H1 g1.next=q at *
    obtain ⟨b,r2⟩:=q
    obtain ⟨u1,u2,-,u4,u5,u6,u7⟩:=hw
    simp only at u1 u2 u4 u5 u6 u7
    obtain ⟨u8,u9⟩:=u4 hdd
    have m:May n b (g.stamp+2) (fun w U=>(w=v∧U=T)∨(w=v+1∧U=foldS T os)):=fun j=>by
     rw [u9,u1]
     obtain ⟨w,U,hc,u⟩:=hm j
     exact ⟨w,U,.inl (hc.elim id id),u⟩
    cases r2 with
    | some f=>exact ⟨k.dp.trans u2,fun e=>(by cases e),m,by show g1.stamp+1≤_;omega,fun f i=>⟨(u5 f i).1,k.fail (u5 f i).2⟩,fun h=>k.fail (u6 h)⟩
    | none =>
     have C:b.flush.1.held=b.held∧b.flush.1.late=b.late∧b.dp.Same b.flush.1.dp∧b.flush.1.dp.dead=true∧(∀ f,b.flush.2=some f→1≤f∧0≤b.fail)∧(0≤b.flush.1.fail→0≤b.fail):=by
      unfold fP.flush
      split
      ·rename_i i
       exact ⟨rfl,rfl,.refl _,u8,fun f h=>(by cases h;exact ⟨af _,tB i⟩),kh⟩
      ·rw [nJ u8,aD rfl]
       exact ⟨rfl,rfl,mB _,nJ u8,fun f h=>(by cases h),kh⟩
     obtain ⟨f1,f2,f3,f4,f5,f6⟩:=C
     show Step 2 n H g v T (v+1) (foldS T os) (qm g1 data b.flush).1 (qm g1 data b.flush).2.1 (qm g1 data b.flush).2.2
     generalize b.flush=q at *
     obtain ⟨x,J⟩:=q
     simp only at f1 f2 f3 f4 f5 f6
     have o:May n x (g.stamp+2) (fun w U=>(w=v∧U=T)∨(w=v+1∧U=foldS T os)):=fun j=>by
      rw [f2,f1]
      exact m j
     cases J with
     | some f=>exact ⟨(k.dp.trans u2).trans f3,fun e=>(by cases e),o,by show g1.stamp+1≤_;omega,fun f i=>⟨(f5 f i).1,k.fail (u6 (f5 f i).2)⟩,fun h=>k.fail (u6 (f6 h))⟩
     | none =>
      refine ⟨(k.dp.trans u2).trans f3,fun _ e => ?_,o,by show g1.stamp+1≤_;omega,fun f i=>(by cases i),fun h=>k.fail (u6 (f6 h))⟩
      rw [show (qm g1 data (x,none)).1.dp.dead=x.dp.dead from rfl,f4] at e
      cases e
   ·obtain ⟨D,O⟩:=B rfl hdd
    have F:=k.good rfl hdd
    have d:=yq F (by omega) y (by omega) (by rw [D];omega) hd
    have Q:=d.stamp
    refine ⟨k.dp.trans d.dp,d.good,?_,?_,fun f i=>⟨(d.err f i).1,k.fail (d.err f i).2⟩,fun h=>k.fail (d.fail h)⟩
    ·exact fun j=>by
      obtain ⟨w,U,hc,u⟩:=d.may j
      exact ⟨w,U,by
       rcases hc with h | h
       ·exact .inl h
       ·exact .inr h,u.mono (by omega)⟩
    ·have:=d.stamp
     omega
 ·rw [au l]
  have k:=yq h (by omega) y (by omega) (by omega) hd
  exact ⟨k.dp,k.good,k.may.mono (dK _) fun _ _ h=>h,ey k.stamp,k.err,k.fail⟩
theorem Bs:∀ (os:List rF) (d:DpS),d.dead=true→(d.run os).S=d.S∧(d.run os).log=d.log∧(d.run os).room=d.room∧(d.run os).dead=true
 | [],d,h=>⟨rfl,rfl,rfl,h⟩
 | o::os,d,h=>by
  have hs:d.step o=d.stop:=d.yD o (nJ h)
  have:=Bs os (d.step o) (by rw [hs];exact nJ h)
  rw [hs] at this
  show (((d.step o).run os).S=_∧_)
  rw [show (d.run (o::os))=(d.step o).run os from rfl,hs]
  exact this
theorem vH (d:DpS) (T:List E) (b:SortedE d.S) (i:SortedE T) (hk:∀ x∈T,inTab x.1) (j:overS T d.room=none) :
  (d.run (jo d.S T)).room=d.room∧(∀ x∈(d.run (jo d.S T)).S,x∈d.S∨x∈T)∧SortedE (d.run (jo d.S T)).S∧
   ((d.run (jo d.S T)).dead=false→d.dead=false∧(d.run (jo d.S T)).S=T∧(d.run (jo d.S T)).log=d.log++(jo d.S T).map qA):=by
 refine ⟨Bt _ _,fun x l => ?_,(DpS.sU (jo d.S T) b).1,fun hdd => ?_⟩
 ·rcases DX _ d x l with h | h
  ·exact .inl h
  ·exact .inr (Gp h)
 ·have hd:d.dead=false:=by
   rcases cA d.dead with h | h
   ·rw [(Bs _ d h).2.2.2] at hdd;cases hdd
   ·exact h
  refine ⟨hd,?_⟩
  have e:=Ia d T hd b i hk j
  rw [e] at hdd⊢
  by_cases hl:d.left<0
  ·obtain ⟨u1,u2⟩:=GX d (jo d.S T) hl
   exact ⟨u1.trans (DU b i),u2⟩
  ·have hle:(jo d.S T).length≤d.left.toNat:=by
    unfold DpS.zN at hdd
    rw [au hl] at hdd
    have:=of_decide_eq_false hdd
    omega
   unfold DpS.zN
   rw [au hl,Nat.min_eq_right hle,bC]
   exact ⟨DU b i,rfl⟩
theorem ki {v:Nat} (h:isVersionB v=true):v<18446744073709551615:=by
 unfold isVersionB at h
 simp only [dO,dj] at h
 exact h.2
structure TabOk (n:Nat) (room:Nat→Int) (v:Nat) (T:List E):Prop where
 sorted:SortedE T
 good:∀ x∈T,EntGood x
 over:overS T room=none
 size:sizeS T≤16*(n-8)
 zero:v=0→T=[]
 ver:v≠0→isVersionB v=true
 v64:v<18446744073709551615
theorem TabOk.tab {n:Nat} {room:Nat→Int} {v:Nat} {T:List E} (h:TabOk n room v T):∀ x∈T,inTab x.1:=fun x b=>⟨(h.good x b).1,(h.good x b).2.1⟩
theorem TabOk.len {n:Nat} {l:List Int} {v:Nat} {T:List E} (h:TabOk n (roomN l) v T):T.length≤120:=(ThereOk.len (l:=l) (P:=fun _=>True) ⟨h.sorted,h.tab,wO h.over,fun _ _=>cL⟩)
theorem TabOk.nil (n:Nat) (l:List Int):TabOk n (roomN l) 0 []:=⟨SortedE.nil,fun _ h=>(by cases h),by
 have b:=(kJ l 0).1
 have h1:=(kJ l 1).1
 have h2:=(kJ l 2).1
 unfold overS
 rw [au (by show ¬(roomN l 0<((0:Nat):Int));omega),au (by show ¬(roomN l 1<((0:Nat):Int));omega),au (by show ¬(roomN l 2<((0:Nat):Int));omega)],aM _,fun _=>rfl,fun h=>absurd rfl h,by omega⟩
theorem wG {T:List E} {room:Nat→Int} {n:Nat} (h:iw T room n=none):overS T room=none∧sizeS T≤16*(n-8):=by
 unfold iw at h
 split at h
 ·cases h
 ·rename_i b
  split at h
  ·cases h
  ·exact ⟨b,by omega⟩
def vz (P:PAg):im→Prop
 | .delta v os=>v=P.a.V+1∧isVersionB v=true∧pt (jb v os) = .inl (v,os)∧0<(jb v os).length∧(jb v os).length≤700∧∀ x∈foldS P.a.T os,EntGood x
 | .state v T=>P.a.V<v∧isVersionB v=true∧SortedE T∧∀ x∈T,EntGood x
structure UpAg (n:Nat) (l:List Int) (H:fP) (P:PAg):Prop where
 disk:DiskUp n H P.lg P.a.V P.a.T
 dpS:H.dp.S=P.a.T
 room:H.dp.room=roomN l
 tab:TabOk n (roomN l) P.a.V P.a.T
 deg:P.a.deg=none
theorem vz.tab {n:Nat} {l:List Int} {H:fP} {P:PAg} {tk:im} (h:vz P tk) (hu:UpAg n l H P) (hl:iw (tk.T P.a.T) (roomN l) n=none):TabOk n (roomN l) tk.V (tk.T P.a.T)∧P.a.V<tk.V:=by
 obtain ⟨h1,h2⟩:=wG hl
 cases tk with
 | delta v os =>
  obtain ⟨g1,g2,g3,g4,g5,g6⟩:=h
  have b:=lj g2
  exact ⟨⟨oz os hu.tab.sorted,g6,h1,h2,fun e=>(by rw [show (im.delta v os).V=v from rfl,g1] at e;omega),fun _=>g2,ki g2⟩,by show P.a.V<v;omega⟩
 | state v T =>
  obtain ⟨g1,g2,g3,g4⟩:=h
  exact ⟨⟨g3,g4,h1,h2,fun e=>(by rw [show (im.state v T).V=v from rfl] at e;omega),fun _=>g2,ki g2⟩,g1⟩
theorem jc (a:AgA) (k:UInt8) (b:List UInt8):(a.put k b).deg=a.deg∧(a.put k b).V=a.V∧(a.put k b).T=a.T:=by
 unfold AgA.put
 split <;> exact ⟨rfl,rfl,rfl⟩
theorem Gc {n:Nat} {l:List Int} {H:fP} {P:PAg} {tk:im} (hu:UpAg n l H P) (d:32≤n∧n≤128) (hs:P.lg.stamp+2<18446744073709551616) (h:vz P tk) (hl:iw (tk.T P.a.T) (roomN l) n=none) :
  Step 2 n H P.lg P.a.V P.a.T tk.V (tk.T P.a.T) (tk.log H P).1 (tk.log H P).2.1 (tk.log H P).2.2:=by
 obtain ⟨b,-⟩:=h.tab hu hl
 have enc:∀ {v:Nat} {T:List E},TabOk n (roomN l) v T→v≠0→0<(gX v T).length∧(gX v T).length≤10+16*(n-8)∧iG (gX v T) = .inl (v,T):=fun {v T} k i=>by
  rw [mn]
  exact ⟨by omega,by have:=k.size;omega,ug (k.ver i) k.sorted k.good (by have:=k.len;omega)⟩
 cases tk with
 | delta v os =>
  obtain ⟨rfl,g2,g3,g4,g5,g6⟩:=h
  exact Gz hu.disk d hs g4 g5 g3 (enc hu.tab)
 | state v T =>
  obtain ⟨g1,g2,g3,g4⟩:=h
  obtain ⟨j,m,o⟩:=enc b (by show v≠0;omega)
  obtain ⟨k,-,-⟩:=yi hu.disk d (by omega) j m o
  exact ⟨k.dp,k.good,k.may.mono (dK _) fun _ _ h=>h,ey k.stamp,k.err,k.fail⟩
structure Ju (n:Nat) (l:List Int) (H:fP) (P:PAg) (tk:im) (H':fP) (P':PAg):Prop where
 may:May n H' (P.lg.stamp+2) (fun w U=>(w=P.a.V∧U=P.a.T)∨(w=tk.V∧U=tk.T P.a.T))
 mem:∀ x∈H'.dp.S,x∈P.a.T∨x∈tk.T P.a.T
 sorted:SortedE H'.dp.S
 room:H'.dp.room=roomN l
 fail:0≤H'.fail→0≤H.fail
 stamp:P'.lg.stamp≤P.lg.stamp+2
 alive:H'.dp.dead=false→(UpAg n l H' P'∧P'.a=P.a.takes tk (roomN l) n∧P'.sec=P.sec∧H'.dp.log=H.dp.log++P.a.done tk (roomN l) n)∨
  (P'.a=P.a.stops (12,0)∧1≤P'.sec∧0≤H.fail∧H'.dp.S=P.a.T∧H'.dp.log=H.dp.log)
theorem Dx {n:Nat} {l:List Int} {H:fP} {P:PAg} {tk:im} (hu:UpAg n l H P) (G:32≤n∧n≤128) (hs:P.lg.stamp+2<18446744073709551616) (h:vz P tk) (hl:iw (tk.T P.a.T) (roomN l) n=none) :
  Ju n l H P tk (j7 H P tk).1 (j7 H P tk).2:=by
 have k:=Gc hu G hs h hl
 obtain ⟨d,-⟩:=h.tab hu hl
 have hlen:H.seen.length=n:=by rw [hu.disk.seen,hu.disk.len]
 have e:j7 H P tk=vm P tk (tk.log H P):=by
  unfold j7
  rw [hu.room,hlen,hl]
 rw [e]
 generalize tk.log H P=q at *
 obtain ⟨H1,g1,r⟩:=q
 obtain ⟨j,D,o,s,u,y⟩:=k
 simp only at j D o s u y
 have i:H1.dp.S=P.a.T:=j.1.trans hu.dpS
 have m:H1.dp.room=roomN l:=j.2.2.trans hu.room
 cases r with
 | some f=>exact ⟨o,fun x B => .inl (by rw [←i];exact B),by show SortedE H1.dp.S;rw [i];exact hu.tab.sorted,m,y,s,fun _ => .inr ⟨rfl,(u f rfl).1,(u f rfl).2,i,j.2.1⟩⟩
 | none =>
  obtain ⟨E,I,J,M⟩:=vH H1.dp (tk.T P.a.T) (by rw [i];exact hu.tab.sorted) d.sorted d.tab (by rw [m];exact d.over)
  refine ⟨o,fun x B => ?_,J,E.trans m,y,s,fun hdd => .inl ?_⟩
  ·rcases I x B with h | h
   ·exact .inl (by rw [←i];exact h)
   ·exact .inr h
  ·obtain ⟨c1,c2,c3⟩:=M hdd
   have b:=D rfl c1
   obtain ⟨N,F,C⟩:=jc {P.a with V:=tk.V,T:=tk.T P.a.T} 17 (be8 tk.V)
   refine ⟨⟨⟨b.seen,b.late,b.len,b.stamps,?_,b.next,hdd⟩,?_,E.trans m,?_,N.trans hu.deg⟩,?_,rfl,?_⟩
   ·show DiskInv decSB decDB foldS [] (H1.held.map parseSec) (placeOf n) g1.slot (AgA.put {P.a with V:=tk.V,T:=tk.T P.a.T} 17 (be8 tk.V)).V (AgA.put {P.a with V:=tk.V,T:=tk.T P.a.T} 17 (be8 tk.V)).T g1.next
    rw [F,C]
    exact b.inv
   ·exact c2.trans C.symm
   ·show TabOk n (roomN l) (AgA.put {P.a with V:=tk.V,T:=tk.T P.a.T} 17 (be8 tk.V)).V (AgA.put {P.a with V:=tk.V,T:=tk.T P.a.T} 17 (be8 tk.V)).T
    rw [F,C]
    exact d
   ·unfold AgA.takes
    rw [hl]
    rfl
   ·refine c3.trans ?_
    rw [j.2.1,i]
    unfold AgA.done
    rw [hl]
theorem AU {d:List (List UInt8)} {s:Nat} (h:stampsLe d s):gO d≤s:=by
 have key:∀ (d:List (List UInt8)) (m:Nat),m≤s→stampsLe d s→d.foldl (fun m b=>max m (parseSec b).stamp) m≤s:=by
  intro d
  induction d with
  | nil=>exact fun m h _=>h
  | cons b d ih=>exact fun m hm hd=>ih _ (by have:=hd b (by simp);show max m (parseSec b).stamp≤s;omega) fun x i=>hd x (by simp [i])
 exact key d 0 (aM _) h
theorem AM (d:List (List UInt8)):stampsLe d (gO d):=by
 have key:∀ (d:List (List UInt8)) (m:Nat),m≤d.foldl (fun m b=>max m (parseSec b).stamp) m∧stampsLe d (d.foldl (fun m b=>max m (parseSec b).stamp) m):=by
  intro d
  induction d with
  | nil=>exact fun m=>⟨af _,fun x h=>(by cases h)⟩
  | cons b d ih =>
   intro m
   obtain ⟨h1,h2⟩:=ih (max m (parseSec b).stamp)
   rw [eL]
   refine ⟨by omega,fun x i => ?_⟩
   rcases aP.1 i with rfl | i
   ·omega
   ·exact h2 x i
 exact (key d 0).2
theorem pD {n s v:Nat} {d:List (List UInt8)} {T:List E} (h:lK n d s v T):∃ g,Bf d=(g,v,T)∧g.stamp≤s∧stampsLe d g.stamp∧g.next≤n∧DiskInv decSB decDB foldS [] (d.map parseSec) (placeOf n) g.slot v T g.next:=by
 obtain ⟨h1,h2,slot,next,h3,h4⟩:=h
 obtain ⟨b,v0,i,f1,f2⟩:=h4.found
 have hl:(d.map parseSec).length=n:=by rw [aG,h1]
 refine ⟨⟨gO d,slot,next⟩,?_,AU h2,AM d,h3,h4⟩
 unfold Bf
 simp only [hl]
 rw [f1]
 simp only
 have:=f2 (n+1) (by omega)
 rw [this]
inductive Started (n:Nat) (l:List Int) (C:Nat→List E→Prop) (s:Nat) (H H':fP):PAg⊕(Nat×Nat×Nat)→Prop
 | bad (f:Nat) (h1:1≤f) (h2:0≤H.fail) (h3:H'.dp=H.dp) (h4:May n H' s C) (h5:H'.fail = -1) (h6:H'.seen=H.seen∧H'.held=H.held∧H'.late=[]):Started n l C s H H' (.inr (12,0,f))
 | good (P:PAg) (v:Nat) (T:List E) (h1:C v T) (h2:P.a=begunA v T∧P.sec=0) (h3:May n H' s C) (h4:∀ x∈H'.dp.S,x∈H.dp.S∨x∈T) (h5:SortedE H'.dp.S) (h6:H'.dp.room=roomN l) (h7:0≤H'.fail→0≤H.fail) (h8:P.lg.stamp≤s)
   (h9:H'.dp.dead=false→UpAg n l H' P):Started n l C s H H' (.inl P)
theorem jJ (v:Nat) (T:List E):(begunA v T).V=v∧(begunA v T).T=T∧(begunA v T).deg=none:=by
 obtain ⟨b,d,i⟩:=jc ⟨v,T,[],none,none⟩ 16 (be8 v)
 exact ⟨d,i,b⟩
theorem xe {n:Nat} {l:List Int} {C:Nat→List E→Prop} {s:Nat} {H:fP} (hm:May n H s C) (u:∀ v T,C v T→TabOk n (roomN l) v T) (hl:H.late=[]) (hs:H.seen=H.held) (x:SortedE H.dp.S) (i:H.dp.room=roomN l) :
  Started n l C s H (ie H).1 (ie H).2:=by
 obtain ⟨v,T,hc,d⟩:=hm fun _=>true
 rw [hl] at d
 have d:lK n H.held s v T:=d
 unfold ie readAll
 by_cases m:0≤H.fail∧H.fail<H.seen.length
 ·rw [aD m]
  exact .bad _ (by omega) m.1 rfl (fun j=>⟨v,T,hc,by rw [show ({H with fail := -1} : fP).late=[] from hl];exact d⟩) rfl ⟨rfl,rfl,hl⟩
 ·rw [au m]
  obtain ⟨g,y,g1,g2,g3,g4⟩:=pD d
  simp only
  rw [hs,y]
  simp only
  have b:=u v T hc
  rw [i,b.over]
  obtain ⟨q,o,B⟩:=jJ v T
  obtain ⟨r,D,F,G⟩:=vH H.dp T x b.sorted b.tab (by rw [i];exact b.over)
  refine .good _ v T hc ⟨rfl,rfl⟩ (fun j=>⟨v,T,hc,?_⟩) D F (r.trans i) (fun h => ?_) g1 fun hdd => ?_
  ·show lK n (applySel j 0 H.late H.held) s v T
   rw [hl]
   exact d
  ·have I:0≤(if H.fail<0 then H.fail else H.fail-(H.held.length:Int)):=h
   split at I <;> omega
  ·obtain ⟨c1,c2,c3⟩:=G hdd
   refine ⟨⟨rfl,hl,d.len,g2,?_,g3,hdd⟩,?_,r.trans i,?_,B⟩
   ·show DiskInv decSB decDB foldS [] (H.held.map parseSec) (placeOf n) g.slot (begunA v T).V (begunA v T).T g.next
    rw [q,o]
    exact g4
   ·exact c2.trans o.symm
   ·show TabOk n (roomN l) (begunA v T).V (begunA v T).T
    rw [q,o]
    exact b
theorem vE {n:Nat} {s:Nat} {C:Nat→List E→Prop} {H:fP} (hm:May n H s C) (mask cut fail:Int) :
  May n (H.again mask cut fail) s C∧(H.again mask cut fail).late=[]∧(H.again mask cut fail).seen=(H.again mask cut fail).held∧(H.again mask cut fail).dp.S=H.dp.S∧(H.again mask cut fail).dp.room=H.dp.room∧(0≤(H.again mask cut fail).fail→0≤fail):=by
 obtain ⟨v,T,hc,b⟩:=hm (pI mask)
 exact ⟨fun d=>⟨v,T,hc,b⟩,rfl,rfl,rfl,rfl,fun h=>(by have i:0≤max fail (-1):=h;omega)⟩
theorem Bc (n:Nat) (l:List Int) (d:32≤n∧n≤128):May n (mZ n (roomN l)) 0 (fun v T=>v=0∧T=[])∧(mZ n (roomN l)).late=[]∧(mZ n (roomN l)).seen=(mZ n (roomN l)).held∧(mZ n (roomN l)).dp=⟨-1,false,roomN l,[],[]⟩∧(mZ n (roomN l)).fail = -1:=by
 have j:=jq d.1 d.2
 refine ⟨fun m=>⟨0,[],⟨rfl,rfl⟩,?_⟩,rfl,rfl,rfl,rfl⟩
 show lK n (List.replicate n iH) 0 0 []
 refine ⟨bF,fun b i => ?_,0,2*placeOf n,by omega,G3 decSB decDB foldS [] n (placeOf n)⟩
 rw [(List.mem_replicate.1 i).2,wP]
 exact af _
theorem pK {a a1:AgA} {frame:List UInt8} (h:a.taken frame=(a1,none)):a1.V=a.V∧a1.T=a.T∧a1.deg=a.deg:=by
 have i:∀ (a:AgA) (k:UInt8) (b:List UInt8),(a.put k b).V=a.V∧(a.put k b).T=a.T∧(a.put k b).deg=a.deg:=fun a k b=>⟨(jc a k b).2.1,(jc a k b).2.2,(jc a k b).1⟩
 have d:∀ (a:AgA) (k:Nat),(a.bad k).V=a.V∧(a.bad k).T=a.T∧(a.bad k).deg=a.deg:=fun a k=>by
  obtain ⟨h1,h2,h3⟩:=i (a.gW k) 16 (be8 (a.gW k).V)
  obtain ⟨g1,g2,g3⟩:=i a 18 [UInt8.ofNat k]
  exact ⟨h1.trans g1,h2.trans g2,h3.trans g3⟩
 unfold AgA.taken at h
 split at h
 ·cases h
  exact i _ _ _
 ·split at h
  ·cases h
   exact d _ _
  ·split at h
   ·unfold AgA.delta at h
    split at h
    ·cases h;exact d _ _
    ·split at h
     ·cases h;exact i _ _ _
     ·split at h
      ·cases h;exact i _ _ _
      ·cases h
   ·split at h
    ·injection h with h _
     subst h
     split
     ·exact i _ _ _
     ·exact d _ _
    ·split at h
     ·injection h with h _
      subst h
      unfold AgA.nM
      split
      ·exact d _ _
      ·split
       ·exact d _ _
       ·split
        ·exact d _ _
        ·split
         ·exact d _ _
         ·split
          ·exact i _ _ _
          ·exact i _ _ _
     ·split at h
      ·unfold AgA.piece at h
       split at h
       ·cases h;exact d _ _
       ·split at h
        ·cases h;exact d _ _
        ·split at h
         ·cases h;exact i _ _ _
         ·split at h
          ·cases h;exact i _ _ _
          ·split at h
           ·cases h;exact i _ _ _
           ·unfold AgA.lU at h
            split at h
            ·cases h;exact d _ _
            ·split at h
             ·cases h;exact d _ _
             ·split at h
              ·cases h;exact i _ _ _
              ·cases h
      ·cases h;exact d _ _
theorem pL {a a1:AgA} {frame:List UInt8} {tk:im} (h:a.taken frame=(a1,some tk)) (j:SortedE a.T) (l:∀ x∈a.T,EntGood x) (sec:Nat) (lg:LogS):a.deg=none∧a1.V=a.V∧a1.T=a.T∧a1.deg=a.deg∧a1.out=a.out∧vz ⟨a1,sec,lg⟩ tk:=by
 unfold AgA.taken at h
 split at h
 ·cases h
 ·rename_i hd
  have hd:a.deg=none:=Option.not_isSome_iff_eq_none.1 hd
  refine ⟨hd,?_⟩
  split at h
  ·cases h
  ·split at h
   ·unfold AgA.delta at h
    split at h
    ·cases h
    ·rename_i v os b
     split at h
     ·cases h
     ·split at h
      ·cases h
      ·cases h
       have i:=b
       rw [nN] at i
       obtain ⟨hw,he⟩:=uZ _ _ _ i
       have hl:=lN hw
       have d:isVersionB v=true:=by
        unfold gK at hw
        split at hw
        ·cases hw
        ·rename_i d
         simpa using d
       refine ⟨rfl,rfl,rfl,rfl,by show v=a.V+1;omega,d,by rw [he];exact b,by omega,by omega,?_⟩
       exact ((⟨af _,j,l⟩:jQ a.T.length a.T).fold hw).good
   ·split at h
    ·cases h
    ·split at h
     ·cases h
     ·split at h
      ·unfold AgA.piece at h
       split at h
       ·cases h
       ·split at h
        ·cases h
        ·split at h
         ·cases h
         ·split at h
          ·cases h
          ·split at h
           ·cases h
           ·unfold AgA.lU at h
            split at h
            ·cases h
            ·rename_i v T b
             split at h
             ·cases h
             ·split at h
              ·cases h
              ·cases h
               refine ⟨rfl,rfl,rfl,rfl,?_,(om b).1,(p9 b).2,(om b).2.1⟩
               simp only at *
               omega
      ·cases h
end Go.Proofs.YtkkfmkhbdoeglabGreatDoor
namespace Go.Proofs.YtkkfmkhbdoeglabGreatDoor
structure WInv (n:Nat) (l:List Int) (s:Nat) (H:fP) (P:Option PAg) (a:AgA) (maybe:List (Nat×List E)) (ever:List E) (armed:Bool):Prop where
 may:May n H s fun v T=>(v,T)∈maybe
 tabs:∀ m∈maybe,TabOk n (roomN l) m.1 m.2
 uniq:∀ m∈maybe,∀ k∈maybe,m.1=k.1→m=k
 everT:∀ m∈maybe,∀ x∈m.2,x∈ever
 everD:∀ x∈H.dp.S,x∈ever
 sorted:SortedE H.dp.S
 room:H.dp.room=roomN l
 arm:0≤H.fail→armed=true
 self:(a.V,a.T)∈maybe
 up:∀ p,P=some p→H.dp.dead=false→p.a=a∧p.lg.stamp≤s∧H.dp.S=a.T∧(a.deg=none→UpAg n l H p∧maybe=[(a.V,a.T)]∧p.sec=0)∧(∀ f,a.deg=some f→(f.1=12↔1≤p.sec))
theorem WInv.mono {n:Nat} {l:List Int} {s t:Nat} {H:fP} {P:Option PAg} {a:AgA} {maybe:List (Nat×List E)} {ever ever':List E} {armed:Bool} (h:WInv n l s H P a maybe ever armed) (hs:s≤t) (he:∀ x∈ever,x∈ever'):WInv n l t H P a maybe ever' armed :=
 ⟨h.may.mono hs fun _ _ h=>h,h.tabs,h.uniq,fun m hm x b=>he x (h.everT m hm x b),fun x b=>he x (h.everD x b),h.sorted,h.room,h.arm,h.self,fun p d hd=>by
  obtain ⟨h1,h2,h3⟩:=h.up p d hd
  exact ⟨h1,by omega,h3⟩⟩
theorem DiskUp.writes {n:Nat} {H:fP} {g:LogS} {v:Nat} {T:List E} (h:DiskUp n H g v T) (k:Int) (b:Int) (d:Int) (lg:List (List UInt8)):DiskUp n {H with writes:=k,fail:=d,dp := {H.dp with left:=b,log:=lg}} g v T:=⟨h.seen,h.late,h.len,h.stamps,h.inv,h.next,h.dead⟩
theorem UpAg.mT {n:Nat} {l:List Int} {H:fP} {P:PAg} (h:UpAg n l H P) (k:Int) (b:Int) (d:Int) (lg:List (List UInt8)):UpAg n l {H with writes:=k,fail:=d,dp := {H.dp with left:=b,log:=lg}} P:=⟨h.disk.writes k b d lg,h.dpS,h.room,h.tab,h.deg⟩
theorem WInv.mT {n:Nat} {l:List Int} {s:Nat} {H:fP} {P:Option PAg} {a:AgA} {maybe:List (Nat×List E)} {ever:List E} {armed:Bool} (h:WInv n l s H P a maybe ever armed) (k i d:Int) (lg:List (List UInt8)) (b:Bool) (ha:0≤d→b=true):WInv n l s {H with writes:=k,fail:=d,dp := {H.dp with left:=i,log:=lg}} P a maybe ever b :=
 ⟨h.may,h.tabs,h.uniq,h.everT,h.everD,h.sorted,h.room,ha,h.self,fun p j hd=>by
  obtain ⟨h1,h2,h3,h5,h6⟩:=h.up p j hd
  exact ⟨h1,h2,h3,fun e=>⟨(h5 e).1.mT k i d lg,(h5 e).2⟩,h6⟩⟩
theorem WInv.own {n:Nat} {l:List Int} {s:Nat} {H:fP} {p:PAg} {a a1:AgA} {maybe:List (Nat×List E)} {ever:List E} {armed:Bool} (h:WInv n l s H (some p) a maybe ever armed) (h1:a1.V=a.V) (h2:a1.T=a.T) (h3:a1.deg=a.deg):WInv n l s H (some {p with a:=a1}) a1 maybe ever armed :=
 ⟨h.may,h.tabs,h.uniq,h.everT,h.everD,h.sorted,h.room,h.arm,by rw [h1,h2];exact h.self,fun q hq hd=>by
  cases hq
  obtain ⟨g1,g2,g3,g5,g6⟩:=h.up p rfl hd
  refine ⟨rfl,g2,by rw [h2];exact g3,fun e => ?_,fun f e=>g6 f (by rw [←h3];exact e)⟩
  obtain ⟨u,u2,u3⟩:=g5 (by rw [←h3];exact e)
  have u1:=u.disk
  rw [g1,←h1,←h2] at u1
  have ut:=u.tab
  rw [g1,←h1,←h2] at ut
  exact ⟨⟨u1,by rw [h2];exact g3,u.room,ut,e⟩,by rw [h1,h2];exact u2,u3⟩⟩
theorem WInv.se {n:Nat} {l:List Int} {s:Nat} {H:fP} {p:PAg} {a a1:AgA} {maybe:List (Nat×List E)} {ever:List E} {armed:Bool} {frame:List UInt8} (h:WInv n l s H (some p) a maybe ever armed) (hd:H.dp.dead=false) (b:a.taken frame=(a1,none)) :
  ij H p frame=(H,{p with a:=a1})∧WInv n l s H (some {p with a:=a1}) a1 maybe ever armed:=by
 obtain ⟨g1,-⟩:=h.up p rfl hd
 obtain ⟨h1,h2,h3⟩:=pK b
 refine ⟨?_,h.own h1 h2 h3⟩
 unfold ij
 rw [g1,b]
theorem WInv.full {n:Nat} {l:List Int} {s:Nat} {H:fP} {p:PAg} {a a1:AgA} {maybe:List (Nat×List E)} {ever:List E} {armed:Bool} {frame:List UInt8} {tk:im} {f:Nat×Nat} (h:WInv n l s H (some p) a maybe ever armed) (hd:H.dp.dead=false) (i:a.taken frame=(a1,some tk)) (hl:iw (tk.T a1.T) (roomN l) n=some f) :
  ij H p frame=(H,⟨a1.stops f,0,p.lg⟩)∧a1.takes tk (roomN l) n=a1.stops f∧a1.done tk (roomN l) n=[]∧WInv n l s H (some ⟨a1.stops f,0,p.lg⟩) (a1.stops f) maybe ever armed:=by
 obtain ⟨g1,g2,g3,g5,g6⟩:=h.up p rfl hd
 have b:=h.tabs _ h.self
 obtain ⟨t1,t2,t3,t4,t5,t6⟩:=pL i b.sorted b.good p.sec p.lg
 obtain ⟨u,u2,u3⟩:=g5 t1
 have hlen:H.seen.length=n:=by rw [u.disk.seen,u.disk.len]
 have d:f.1≠12:=by
  unfold iw at hl
  split at hl
  ·cases hl
   show (10:Nat)≠12
   decide
  ·split at hl
   ·cases hl
    show (11:Nat)≠12
    decide
   ·cases hl
 obtain ⟨j,o,m⟩:=jc {a1 with deg:=some f} 18 [UInt8.ofNat f.1]
 refine ⟨?_,?_,?_,?_⟩
 ·unfold ij
  rw [g1,i]
  simp only
  unfold j7
  simp only [h.room,hlen,hl]
 ·unfold AgA.takes;rw [hl]
 ·unfold AgA.done;rw [hl]
 ·refine ⟨h.may,h.tabs,h.uniq,h.everT,h.everD,h.sorted,h.room,h.arm,?_,fun q hq hd => ?_⟩
  ·rw [show (a1.stops f).V=a.V from o.trans t2,show (a1.stops f).T=a.T from m.trans t3]
   exact h.self
  ·cases hq
   refine ⟨rfl,g2,g3.trans ((show (a1.stops f).T=a.T from m.trans t3)).symm,fun e => ?_,fun k e => ?_⟩
   ·rw [show (a1.stops f).deg=some f from j] at e
    cases e
   ·rw [show (a1.stops f).deg=some f from j] at e
    cases e
    exact ⟨fun e=>absurd e d,fun (e:1≤0)=>by omega⟩
theorem WInv.takes {n:Nat} {l:List Int} {s:Nat} {H:fP} {p:PAg} {a a1:AgA} {maybe:List (Nat×List E)} {ever ever':List E} {armed:Bool} {frame:List UInt8} {tk:im} (h:WInv n l s H (some p) a maybe ever armed) (hn:32≤n∧n≤128) (hs:s+2<18446744073709551616) (hd:H.dp.dead=false) (X:a.taken frame=(a1,some tk)) (hl:iw (tk.T a1.T) (roomN l) n=none)
  (he:∀ x,x∈ever∨x∈tk.T a1.T→x∈ever') :
  ∃ H' d,ij H p frame=(H',d)∧(a1.takes tk (roomN l) n).deg=none∧
   (H'.dp.dead=true→WInv n l (s+2) H' (some d) a1 [(a1.V,a1.T),((a1.takes tk (roomN l) n).V,(a1.takes tk (roomN l) n).T)] ever' armed∧∀ x∈H'.dp.S,x∈ever')∧
   (H'.dp.dead=false→
    (d.a=a1.takes tk (roomN l) n∧d.sec=0∧H'.dp.log=H.dp.log++a1.done tk (roomN l) n∧WInv n l (s+2) H' (some d) (a1.takes tk (roomN l) n) [((a1.takes tk (roomN l) n).V,(a1.takes tk (roomN l) n).T)] ever' armed)∨
    (d.a=a1.stops (12,0)∧1≤d.sec∧armed=true∧H'.dp.log=H.dp.log∧WInv n l (s+2) H' (some d) (a1.stops (12,0)) [(a1.V,a1.T),((a1.takes tk (roomN l) n).V,(a1.takes tk (roomN l) n).T)] ever' armed)):=by
 obtain ⟨g1,g2,g3,g5,g6⟩:=h.up p rfl hd
 have B:=h.tabs _ h.self
 obtain ⟨t1,t2,t3,t4,t5,t6⟩:=pL X B.sorted B.good p.sec p.lg
 obtain ⟨u,u2,u3⟩:=g5 t1
 have hu:UpAg n l H {p with a:=a1} := by
  have u1:=u.disk
  rw [g1,←t2,←t3] at u1
  have ut:=u.tab
  rw [g1,←t2,←t3] at ut
  exact ⟨u1,by rw [t3];exact g3,u.room,ut,t4.trans t1⟩
 obtain ⟨C,Q⟩:=t6.tab hu hl
 have Q:a1.V<tk.V:=Q
 have C:TabOk n (roomN l) tk.V (tk.T a1.T):=C
 have k:=Dx hu hn (by show p.lg.stamp+2<_;omega) t6 hl
 have R:ij H p frame=j7 H {p with a:=a1} tk:=by
  unfold ij
  rw [g1,X]
 rw [R]
 generalize j7 H {p with a:=a1} tk=q at *
 obtain ⟨H',d⟩:=q
 obtain ⟨Y,D,G,I,Z,J,k7⟩:=k
 simp only at Y D G I Z J k7
 have U:a1.takes tk (roomN l) n=AgA.lQ {a1 with V:=tk.V,T:=tk.T a1.T} := by unfold AgA.takes;rw [hl]
 obtain ⟨p1,p2,p3⟩:=jc {a1 with V:=tk.V,T:=tk.T a1.T} 17 (be8 tk.V)
 have M:(a1.takes tk (roomN l) n).V=tk.V:=by rw [U];exact p2
 have N:(a1.takes tk (roomN l) n).T=tk.T a1.T:=by rw [U];exact p3
 have eD:(a1.takes tk (roomN l) n).deg=none:=by rw [U];exact p1.trans (t4.trans t1)
 have ak:TabOk n (roomN l) a1.V a1.T:=hu.tab
 have i:∀ x,x∈a1.T∨x∈tk.T a1.T→x∈ever':=fun x b=>he x (b.imp (fun b=>h.everT _ h.self x (by rw [←t3];exact b)) id)
 have j:∀ m∈[(a1.V,a1.T),((a1.takes tk (roomN l) n).V,(a1.takes tk (roomN l) n).T)],TabOk n (roomN l) m.1 m.2:=fun m hm=>by
  rw [M,N] at hm
  rcases aP.1 hm with rfl | hm
  ·exact ak
  ·rw [ax.1 hm];exact C
 have y:∀ m∈[(a1.V,a1.T),((a1.takes tk (roomN l) n).V,(a1.takes tk (roomN l) n).T)],∀ k∈[(a1.V,a1.T),((a1.takes tk (roomN l) n).V,(a1.takes tk (roomN l) n).T)],m.1=k.1→m=k:=fun m hm k hk e=>by
  rw [M,N] at hm hk
  rcases aP.1 hm with rfl | hm <;> rcases aP.1 hk with rfl | hk
  ·rfl
  ·rw [ax.1 hk] at e⊢
   simp only at e
   omega
  ·rw [ax.1 hm] at e⊢
   simp only at e
   omega
  ·rw [ax.1 hm,ax.1 hk]
 have o:∀ m∈[(a1.V,a1.T),((a1.takes tk (roomN l) n).V,(a1.takes tk (roomN l) n).T)],∀ x∈m.2,x∈ever':=fun m hm x b=>by
  rw [M,N] at hm
  rcases aP.1 hm with rfl | hm
  ·exact i x (.inl b)
  ·rw [ax.1 hm] at b;exact i x (.inr b)
 have F:May n H' (s+2) fun v T=>(v,T)∈[(a1.V,a1.T),((a1.takes tk (roomN l) n).V,(a1.takes tk (roomN l) n).T)]:=Y.mono (by show p.lg.stamp+2≤s+2;omega) fun v T hc=>by
  rw [M,N]
  rcases hc with ⟨rfl,rfl⟩ | ⟨rfl,rfl⟩
  ·exact bV
  ·exact aR _ (ax.2 rfl)
 have r:0≤H'.fail→armed=true:=fun e=>h.arm (Z e)
 refine ⟨H',d,rfl,eD,fun hdd=>⟨⟨F,j,y,o,fun x b=>i x (D x b),G,I,r,bV,fun q hq e => ?_⟩,fun x b=>i x (D x b)⟩,fun hdd => ?_⟩
 ·rw [hdd] at e;cases e
 ·rcases k7 hdd with ⟨r1,r2,O,W⟩ | ⟨r1,r2,O,W,r5⟩
  ·left
   refine ⟨r2,O.trans u3,W,⟨?_,?_,?_,?_,fun x b=>i x (D x b),G,I,r,bV,fun q hq _ => ?_⟩⟩
   ·refine (r1.disk.may.mono (t:=s+2) (by have:d.lg.stamp≤p.lg.stamp+2:=J;omega) fun v T hc => ?_)
    rw [ax,hc.1,hc.2,r2]
   ·exact fun m hm=>j m (by rw [ax.1 hm];exact aR _ (ax.2 rfl))
   ·exact fun m hm k hk _=>by rw [ax.1 hm,ax.1 hk]
   ·exact fun m hm=>o m (by rw [ax.1 hm];exact aR _ (ax.2 rfl))
   ·cases hq
    refine ⟨r2,by have:d.lg.stamp≤p.lg.stamp+2:=J;omega,r1.dpS.trans (by rw [r2]),fun _=>⟨r1,rfl,O.trans u3⟩,fun f e => ?_⟩
    rw [eD] at e
    cases e
  ·right
   obtain ⟨q1,q2,q3⟩:=jc {a1 with deg:=some (12,0)} 18 [UInt8.ofNat 12]
   have eS:((a1.stops (12,0)).V,(a1.stops (12,0)).T)=(a1.V,a1.T):=Prod.ext q2 q3
   refine ⟨r1,r2,h.arm O,r5,⟨F,j,y,o,fun x b=>i x (D x b),G,I,r,by rw [eS];exact bV,fun q hq _ => ?_⟩⟩
   cases hq
   refine ⟨r1,by have:d.lg.stamp≤p.lg.stamp+2:=J;omega,W.trans q3.symm,fun e => ?_,fun f e => ?_⟩
   ·rw [show (a1.stops (12,0)).deg=some (12,0) from q1] at e
    cases e
   ·rw [show (a1.stops (12,0)).deg=some (12,0) from q1] at e
    cases e
    exact ⟨fun _=>r2,fun _=>rfl⟩
theorem WInv.pG {n:Nat} {l:List Int} {s:Nat} {H:fP} {P:Option PAg} {a:AgA} {maybe:List (Nat×List E)} {ever:List E} {armed:Bool} (h:WInv n l s H P a maybe ever armed) (mask cut fail:Int) :
  (∃ H' f,ie (H.again mask cut fail)=(H',.inr (12,0,f))∧1≤f∧0≤fail∧WInv n l s H' none a maybe ever (decide (0≤fail))∧∀ x∈H'.dp.S,x∈ever)∨
  (∃ H' p v T,ie (H.again mask cut fail)=(H',.inl p)∧(v,T)∈maybe∧p.a=begunA v T∧(∀ x∈H'.dp.S,x∈ever)∧(H'.dp.dead=true→WInv n l s H' (some p) a maybe ever (decide (0≤fail)))∧
   (H'.dp.dead=false→WInv n l s H' (some p) (begunA v T) [(v,T)] ever (decide (0≤fail)))):=by
 obtain ⟨m1,m2,m3,m4,m5,m6⟩:=vE h.may mask cut fail
 have d:∀ k:Int,(0≤k→0≤(H.again mask cut fail).fail)→0≤k→decide (0≤fail)=true:=fun k hk e=>cK (m6 (hk e))
 have i:=xe (l:=l) m1 (fun v T hc=>h.tabs _ hc) m2 m3 (by rw [m4];exact h.sorted) (m5.trans h.room)
 generalize ie (H.again mask cut fail)=q at i
 obtain ⟨H',r⟩:=q
 simp only at i
 cases i with
 | bad f h1 h2 h3 h4 h5 h6 =>
  left
  have o:H'.dp.S=H.dp.S:=by rw [h3];exact m4
  refine ⟨H',f,rfl,h1,m6 h2,⟨h4,h.tabs,h.uniq,h.everT,by rw [o];exact h.everD,by rw [o];exact h.sorted,by rw [h3];exact m5.trans h.room,fun e=>by rw [h5] at e;omega,h.self,fun q hq=>by cases hq⟩,by rw [o];exact h.everD⟩
 | good p v T h1 h2 h3 h4 h5 h6 h7 h8 h9 =>
  right
  have j:∀ x∈H'.dp.S,x∈ever:=fun x b=>by
   rcases h4 x b with b | b
   ·rw [m4] at b;exact h.everD x b
   ·exact h.everT _ h1 x b
  refine ⟨H',p,v,T,rfl,h1,h2.1,j,fun hdd=>⟨h3,h.tabs,h.uniq,h.everT,j,h5,h6,d _ h7,h.self,fun q hq e => ?_⟩,fun hdd => ?_⟩
  ·rw [hdd] at e;cases e
  ·obtain ⟨u,y,B⟩:=jJ v T
   have hu:=h9 hdd
   refine ⟨?_,?_,?_,?_,j,h5,h6,d _ h7,by rw [u,y];exact bV,fun q hq _ => ?_⟩
   ·refine hu.disk.may.mono (t:=s) h8 fun w U hc => ?_
    rw [ax,hc.1,hc.2,h2.1,u,y]
   ·exact fun m hm=>by rw [ax.1 hm];exact h.tabs _ h1
   ·exact fun m hm k hk _=>by rw [ax.1 hm,ax.1 hk]
   ·exact fun m hm=>by rw [ax.1 hm];exact h.everT _ h1
   ·cases hq
    refine ⟨h2.1,h8,hu.dpS.trans (by rw [h2.1]),fun _=>⟨hu,by rw [u,y],h2.2⟩,fun f e => ?_⟩
    rw [B] at e
    cases e
theorem WInv.begun (n:Nat) (l:List Int) (u:32≤n∧n≤128) :
  ∃ H' p,ie (mZ n (roomN l))=(H',.inl p)∧p.a=begunA 0 []∧H'.dp.dead=false∧H'.dp.log=[]∧WInv n l 0 H' (some p) (begunA 0 []) [(0,[])] [] false:=by
 obtain ⟨m1,m2,m3,m4,m5⟩:=Bc n l u
 have b:=xe (l:=l) m1 (fun v T hc=>by rw [hc.1,hc.2];exact TabOk.nil n l) m2 m3 (by rw [m4];exact SortedE.nil) (by rw [m4])
 have hdd:(ie (mZ n (roomN l))).1.dp.dead=false∧(ie (mZ n (roomN l))).1.fail = -1∧(ie (mZ n (roomN l))).1.dp.log=[]:=by
  obtain ⟨v,T,⟨rfl,rfl⟩,i⟩:=m1 fun _=>true
  rw [m2] at i
  have i:lK n (mZ n (roomN l)).held 0 0 []:=i
  obtain ⟨g,y,-⟩:=pD i
  unfold ie readAll
  rw [au (by rw [m5];omega)]
  simp only
  rw [m3,y]
  simp only
  rw [m4,(TabOk.nil n l).over]
  exact ⟨rfl,rfl,rfl⟩
 generalize ie (mZ n (roomN l))=q at b hdd
 obtain ⟨H',r⟩:=q
 simp only at b hdd
 cases b with
 | bad f h1 h2 h3 h4 h5 h6=>rw [m5] at h2;omega
 | good p v T h1 h2 h3 h4 h5 h6 h7 h8 h9 =>
  obtain ⟨rfl,rfl⟩:=h1
  obtain ⟨o,j,B⟩:=jJ 0 []
  have hu:=h9 hdd.1
  have s:H'.dp.S=[]:=hu.dpS.trans (by rw [h2.1,j])
  refine ⟨H',p,rfl,h2.1,hdd.1,hdd.2.2,⟨h3.mono (af _) fun v T hc=>(by rw [hc.1,hc.2];exact ax.2 rfl),fun m hm=>(by rw [ax.1 hm];exact TabOk.nil n l),fun m hm k hk _=>(by rw [ax.1 hm,ax.1 hk]),fun m hm x d=>(by rw [ax.1 hm] at d;cases d),fun x d=>(by rw [s] at d;cases d),h5,h6,fun e=>(by rw [hdd.2.1] at e;omega),(by rw [o,j];exact bV),fun q hq _ => ?_⟩⟩
  cases hq
  refine ⟨h2.1,h8,s.trans j.symm,fun _=>⟨hu,by rw [o,j],h2.2⟩,fun f e => ?_⟩
  rw [B] at e
  cases e
end Go.Proofs.YtkkfmkhbdoeglabGreatDoor
namespace Go.Proofs.YtkkfmkhbdoeglabGreatDoor
theorem pH (k:UInt8) (b:List UInt8):(sealB k b).length=b.length+5:=by
 unfold sealB
 simp [zP]
theorem AgA.Fit.put {a:AgA} (h:a.Fit) (k:UInt8) (b:List UInt8) (d:b.length≤8):(a.put k b).Fit:=by
 unfold AgA.put
 split
 ·refine ⟨h.v,by simp only [aq,dt];omega,fun s hs => ?_,h.com⟩
  rcases bE.1 hs with hs | hs
  ·exact h.olen s hs
  ·rw [ax.1 hs,pH];omega
 ·exact h
theorem AgA.Fit.iW {a:AgA} (h:a.Fit):a.iW.Fit:=h.put _ _ (by rw [gm];omega)
theorem AgA.Fit.lQ {a:AgA} (h:a.Fit):a.lQ.Fit:=h.put _ _ (by rw [gm];omega)
theorem AgA.Fit.gW {a:AgA} (h:a.Fit) (k:Nat):(a.gW k).Fit:=h.put _ _ (by simp)
theorem AgA.Fit.jM {a:AgA} (h:a.Fit):a.jM.Fit:=h.put _ _ (by simp)
theorem AgA.Fit.bad {a:AgA} (h:a.Fit) (k:Nat):(a.bad k).Fit:=(h.gW k).iW
theorem AgA.Fit.stops {a:AgA} (h:a.Fit) (f:Nat×Nat):(a.stops f).Fit:=AgA.Fit.gW (a := {a with deg:=some f}) ⟨h.v,h.out,h.olen,h.com⟩ f.1
theorem AgA.Fit.tick {a:AgA} (h:a.Fit):a.tick.Fit:=by
 unfold AgA.tick
 split
 ·exact h.gW 13
 ·split
  ·exact h.jM
  ·exact h.iW
theorem AgA.Fit.next {a:AgA} (h:a.Fit):a.next.1.Fit:=by
 unfold AgA.next
 split
 ·exact h
 ·rename_i s l e
  exact ⟨h.v,by have:=h.out;rw [e] at this;simp at this;show l.length≤6;omega,fun t b=>h.olen t (by rw [e];exact aR _ b),h.com⟩
theorem AgA.Fit.fin {a:AgA} (h:a.Fit):AgA.Fit {a with com:=none} := ⟨h.v,h.out,h.olen,fun _ _ _ e=>by cases e⟩
theorem AgA.Fit.begun (v:Nat) (T:List E) (b:v<18446744073709551615):(begunA v T).Fit:=AgA.Fit.iW ⟨b,by simp,by simp,fun _ _ _ e=>by cases e⟩
theorem AgA.Fit.nM {a:AgA} (h:a.Fit) (body:List UInt8):(a.nM body).Fit:=by
 unfold AgA.nM
 split
 ·exact h.bad 1
 ·split
  ·exact h.bad 2
  ·split
   ·exact h.bad 4
   ·rename_i h9 d _
    split
    ·exact h.bad 5
    ·rename_i j
     split
     ·exact h.lQ
     ·refine AgA.Fit.jM ⟨h.v,h.out,h.olen,fun tv of got e => ?_⟩
      cases e
      have hl:=qP 8 (body.take 8) (by rw [az];omega)
      rw [aQ (by rw [az];omega)] at hl
      have i:iP (body.take 8)<256^8:=hl
      have b:(256:Nat)^8=18446744073709551616:=by decide
      refine ⟨by show 0<_;omega,by omega,by omega,fun s hs=>by cases hs⟩
theorem AgA.Fit.lU {a:AgA} (h:a.Fit) (tv:Nat) (bytes:List UInt8):(a.lU tv bytes).1.Fit:=by
 unfold AgA.lU
 split
 ·exact h.bad _
 ·split
  ·exact h.bad 4
  ·split
   ·exact h.lQ
   ·exact h
theorem AgA.Fit.piece {a:AgA} (h:a.Fit) (body:List UInt8):(a.piece body).1.Fit:=by
 unfold AgA.piece
 split
 ·exact h.bad 1
 ·split
  ·exact h.bad 2
  ·rename_i i
   split
   ·exact h.iW
   ·rename_i tv of got e
    obtain ⟨c1,c2,c3,c4⟩:=h.com tv of got e
    split
    ·exact h.jM
    ·split
     ·refine AgA.Fit.jM ⟨h.v,h.out,h.olen,fun j l b d => ?_⟩
      cases d
      refine ⟨by rw [aq,dt];omega,c2,c3,fun s hs => ?_⟩
      rcases bE.1 hs with hs | hs
      ·exact c4 s hs
      ·rw [ax.1 hs,bg];omega
     ·exact h.fin.lU _ _
theorem AgA.Fit.taken {a:AgA} (h:a.Fit) (frame:List UInt8):(a.taken frame).1.Fit:=by
 unfold AgA.taken
 split
 ·exact h.gW 13
 ·split
  ·exact h.bad _
  ·split
   ·unfold AgA.delta
    split
    ·exact h.bad _
    ·split
     ·exact h.lQ
     ·split
      ·exact h.iW
      ·exact h
   ·split
    ·show (if _ then _ else _:AgA).Fit
     split
     ·exact h.iW
     ·exact h.bad 2
    ·split
     ·exact h.nM _
     ·split
      ·exact h.piece _
      ·exact h.bad 6
theorem AgA.Fit.takes {a:AgA} (h:a.Fit) (tk:im) (room:Nat→Int) (n:Nat) (b:tk.V<18446744073709551615):(a.takes tk room n).Fit:=by
 unfold AgA.takes
 split
 ·exact h.stops _
 ·exact AgA.Fit.lQ ⟨b,h.out,h.olen,h.com⟩
theorem Ib {s:Nat} {data b:List UInt8} (h:b∈gA s data):b.length=64:=by
 unfold gA at h
 obtain ⟨i,-,rfl⟩:=aB.1 h
 exact mN (by rw [pW];have:=pn data i;omega)
theorem HostOk.gH:∀ (l:List (List UInt8)) {H:fP} {B:Nat} (n:Nat),HostOk H B→(∀ b∈l,b.length=64)→n+l.length≤H.seen.length→HostOk (gH l H n).1 (B+l.length)∧(gH l H n).1.seen.length=H.seen.length
 | [],H,B,n,h,_,_=>⟨h,rfl⟩
 | s::l,H,B,n,h,hl,d=>by
  unfold _root_.Go.Proofs.YtkkfmkhbdoeglabGreatDoor.gH
  rw [ar] at d
  obtain ⟨h1,h2⟩:=h.write (n:=n) (by omega) (hl s (by simp))
  generalize H.write n s=q at h1 h2⊢
  obtain ⟨H1,r⟩:=q
  cases r with
  | some f=>exact ⟨h1.mono (by rw [ar];omega),h2⟩
  | none =>
   have j:H1.seen.length=H.seen.length:=h2
   obtain ⟨g1,g2⟩:=HostOk.gH l (n+1) h1 (fun b i=>hl b (by simp [i])) (by show n+1+l.length≤H1.seen.length;omega)
   exact ⟨g1.mono (by rw [ar];omega),g2.trans h2⟩
theorem HostOk.fV {H:fP} {B:Nat} (h:HostOk H B) (g:LogS) (at':Nat) (data:List UInt8) (d:at'+partsOf data.length≤H.seen.length):HostOk (fV H g at' data).1 (B+partsOf data.length)∧(fV H g at' data).1.seen.length=H.seen.length:=by
 obtain ⟨h1,h2⟩:=HostOk.gH (gA (g.stamp+1) data) (H:=H) (B:=B) at' h (fun b i=>Ib i) (by rw [jd];exact d)
 rw [jd] at h1
 unfold _root_.Go.Proofs.YtkkfmkhbdoeglabGreatDoor.fV
 generalize _root_.Go.Proofs.YtkkfmkhbdoeglabGreatDoor.gH (gA (g.stamp+1) data) H at'=q at h1 h2⊢
 obtain ⟨H1,r⟩:=q
 cases r with
 | some f=>exact ⟨h1,h2⟩
 | none=>exact ⟨h1.flush.1,h1.flush.2.trans h2⟩
theorem HostOk.gd {H:fP} {B:Nat} (h:HostOk H B) (g:LogS) (v:Nat) (T:List E) (hs:g.slot<2) (l:sizeS T≤16*(H.seen.length-8)):HostOk (gd H g v T).1 (B+128)∧(gd H g v T).1.seen.length=H.seen.length∧(gd H g v T).2.1.next≤max g.next (2*placeOf H.seen.length)∧(gd H g v T).2.1.slot<2:=by
 have b:=h.n
 have i:=jq b.1 b.2
 have j:partsOf (gX v T).length≤placeOf H.seen.length:=mR (by rw [mn];omega)
 have d:(1-g.slot)*placeOf H.seen.length+partsOf (gX v T).length≤H.seen.length:=by
  rcases (show g.slot=0∨g.slot=1 by omega) with e | e <;> rw [e] <;> omega
 obtain ⟨h1,h2⟩:=h.fV g ((1-g.slot)*placeOf H.seen.length) (gX v T) d
 unfold _root_.Go.Proofs.YtkkfmkhbdoeglabGreatDoor.gd
 generalize _root_.Go.Proofs.YtkkfmkhbdoeglabGreatDoor.fV H g ((1-g.slot)*placeOf H.seen.length) (gX v T)=q at h1 h2⊢
 obtain ⟨H1,r⟩:=q
 cases r with
 | some f=>exact ⟨h1.mono (by omega),h2,by show g.next≤_;omega,hs⟩
 | none=>exact ⟨h1.mono (by omega),h2,by show 2*placeOf H.seen.length≤_;omega,by show 1-g.slot<2;omega⟩
theorem HostOk.gY {H:fP} {B:Nat} (h:HostOk H B) (g:LogS) (b:List UInt8) (v:Nat) (T:List E) (hs:g.slot<2) (m:sizeS T≤16*(H.seen.length-8)) (y:b.length≤700) (_hg:g.next≤H.seen.length):HostOk (gY H g b v T).1 (B+256)∧(gY H g b v T).1.seen.length=H.seen.length:=by
 have j:=h.n
 have u:=jq j.1 j.2
 have x:partsOf b.length≤14:=by unfold partsOf;omega
 have key:∀ (H':fP) (d:LogS) (C:Nat),HostOk H' C→C+14≤B+256→H'.seen.length=H.seen.length→d.next+partsOf b.length≤H.seen.length→HostOk (gM H' d b).1 (B+256)∧(gM H' d b).1.seen.length=H.seen.length:=by
  intro H' d C o D l s
  obtain ⟨h1,h2⟩:=o.fV d d.next b (by rw [l];exact s)
  unfold gM
  generalize _root_.Go.Proofs.YtkkfmkhbdoeglabGreatDoor.fV H' d d.next b=q at h1 h2⊢
  obtain ⟨H1,r⟩:=q
  cases r <;> exact ⟨h1.mono (by omega),h2.trans l⟩
 unfold _root_.Go.Proofs.YtkkfmkhbdoeglabGreatDoor.gY
 split
 ·obtain ⟨h1,h2,h3,h4⟩:=h.gd g v T hs m
  have i:(_root_.Go.Proofs.YtkkfmkhbdoeglabGreatDoor.gd H g v T).2.2=none→(_root_.Go.Proofs.YtkkfmkhbdoeglabGreatDoor.gd H g v T).2.1.next=2*placeOf H.seen.length:=by
   unfold _root_.Go.Proofs.YtkkfmkhbdoeglabGreatDoor.gd
   generalize _root_.Go.Proofs.YtkkfmkhbdoeglabGreatDoor.fV H g ((1-g.slot)*placeOf H.seen.length) (gX v T)=q
   obtain ⟨H1,r⟩:=q
   cases r with
   | some f=>intro e;cases e
   | none=>intro _;rfl
  generalize _root_.Go.Proofs.YtkkfmkhbdoeglabGreatDoor.gd H g v T=q at h1 h2 h3 h4 i⊢
  obtain ⟨H1,g1,r⟩:=q
  cases r with
  | some f=>exact ⟨h1.mono (by omega),h2⟩
  | none=>exact key H1 g1 (B+128) h1 (by omega) h2 (by have:=i rfl;simp only at this;omega)
 ·exact key H g B h (by omega) rfl (by omega)
structure DpFine (l:List Int) (B:Nat) (d:DpS):Prop where
 there:ThereOk (roomN l) EntGood d.S
 room:d.room=roomN l
 log:d.log.length≤B
 left : -1≤d.left∧d.left≤9223372036854775807
theorem DpFine.mono {l:List Int} {B C:Nat} {d:DpS} (h:DpFine l B d) (b:B≤C):DpFine l C d:=⟨h.there,h.room,aH h.log b,h.left⟩
theorem EntGood.tab {x:E} (h:EntGood x):inTab x.1:=⟨h.1,h.2.1⟩
theorem DpFine.stop {l:List Int} {B:Nat} {d:DpS} (h:DpFine l B d):DpFine l B d.stop:=⟨h.there,h.room,h.log,by
 have:=h.left
 show -1≤(if 0<d.left then d.left-1 else d.left)∧(if 0<d.left then d.left-1 else d.left)≤_
 split <;> omega⟩
theorem ThereOk.drop {room:Nat→Int} {P:E→Prop} {S:List E} (h:ThereOk room P S) (k:K):ThereOk room P (ot k S):=by
 have hs:=lP k h.sorted
 refine ⟨hs,fun x b=>h.tab x ((mO k S x).1 b).1,fun t d => ?_,fun x b=>h.mem x ((mO k S x).1 b).1⟩
 have h1:=qK hs (fun x b=>aB.2 ⟨x,((mO k S x).1 b).1,rfl⟩:∀ x∈ot k S,x.1∈S.map (·.1)) (t:Int)
 have:=h.room t d
 omega
theorem DpFine.step {l:List Int} {B:Nat} {d:DpS} (h:DpFine l B d) (o:rF) (m:∀ v,o.2=some v→EntGood (o.1,v)):DpFine l (B+2) (d.step o):=by
 obtain ⟨k,v⟩:=o
 have hs:=h.stop
 have hl:=h.log
 cases v with
 | none =>
  unfold DpS.step DpS.drop
  simp only
  split
  ·exact hs.mono (by omega)
  ·exact ⟨h.there.drop k,h.room,by simp only [aq,dt];omega,hs.left⟩
 | some v =>
  have i:=m v rfl
  unfold DpS.step DpS.put
  simp only
  split
  ·exact hs.mono (by omega)
  ·split
   ·rename_i b
    refine ⟨?_,h.room,by simp only [aq,dt];omega,hs.left⟩
    have h1:=h.there.step i
    unfold tS at h1
    have j:=i.tab
    rw [aD j] at h1
    unfold DpS.l9 DpS.wR at b
    rw [aD (show 0≤k.1∧k.1<3 from j),h.room] at b
    rw [aD b] at h1
    exact h1
   ·exact ⟨h.there,h.room,by simp only [aq,dt];omega,hs.left⟩
theorem DpFine.run {l:List Int} : ∀ (os:List rF) {B:Nat} {d:DpS},DpFine l B d→(∀ o∈os,∀ v,o.2=some v→EntGood (o.1,v))→DpFine l (B+2*os.length) (d.run os)
 | [],_,_,h,_=>h
 | o::os,B,d,h,b=>(DpFine.run os (h.step o (b o (by simp))) fun u hu=>b u (by simp [hu])).mono (by rw [ar];omega)
theorem Bg (h w:List E):(jo h w).length≤h.length+w.length:=by
 unfold jo l5 kI nP qX
 rw [aq,aG,aG]
 exact Nat.add_le_add (dr _ _) (dr _ _)
theorem DpFine.nf {l:List Int} {B:Nat} {d:DpS} (h:DpFine l B d) {T:List E} (j:∀ x∈T,EntGood x) (hl:T.length≤120):DpFine l (B+480) (d.run (jo d.S T)):=by
 refine (h.run (jo d.S T) fun o b v i => ?_).mono ?_
 ·unfold jo at b
  rcases bE.1 b with b | b
  ·obtain ⟨x,-,rfl⟩:=aB.1 b
   cases i
  ·obtain ⟨x,m,rfl⟩:=aB.1 b
   cases i
   exact j x (ch.1 m).1
 ·have h1:=Bg d.S T
  have h2:=h.there.len
  omega
structure Fine (n:Nat) (l:List Int) (B:Nat) (H:fP):Prop where
 ok:HostOk H B
 len:H.seen.length=n
 dp:DpFine l B H.dp
theorem Fine.mono {n:Nat} {l:List Int} {B C:Nat} {H:fP} (h:Fine n l B H) (b:B≤C):Fine n l C H:=⟨h.ok.mono b,h.len,h.dp.mono b⟩
theorem Fine.nf {n:Nat} {l:List Int} {B:Nat} {H:fP} (h:Fine n l B H) {T:List E} (b:∀ x∈T,EntGood x) (hl:T.length≤120):Fine n l (B+480) (H.nf T) :=
 ⟨⟨h.ok.n,h.ok.hl,h.ok.s64,h.ok.h64,h.ok.late,h.ok.fail,by have:=h.ok.writes;show 0≤H.writes∧H.writes≤_;omega,by have:=h.ok.ll;show H.late.length≤_;omega⟩,h.len,h.dp.nf b hl⟩
theorem DpFine.write {l:List Int} {B:Nat} {H:fP} (h:DpFine l B H.dp) (n:Nat) (s:List UInt8):DpFine l B (H.write n s).1.dp:=by
 unfold fP.write
 split
 ·exact h
 ·exact h.stop
theorem DpFine.writes {l:List Int} {B:Nat} : ∀ (ps:List (List UInt8)) (H:fP) (n:Nat),DpFine l B H.dp→DpFine l B (gH ps H n).1.dp
 | [],_,_,h=>h
 | s::ps,H,n,h=>by
  unfold gH
  have h1:=h.write n s
  generalize H.write n s=q at h1⊢
  obtain ⟨H1,r⟩:=q
  cases r with
  | some f=>exact h1
  | none=>exact DpFine.writes ps H1 (n+1) h1
theorem DpFine.flush {l:List Int} {B:Nat} {H:fP} (h:DpFine l B H.dp):DpFine l B H.flush.1.dp:=by
 unfold fP.flush
 split
 ·exact h
 ·split <;> exact h.stop
theorem DpFine.fV {l:List Int} {B:Nat} {H:fP} (h:DpFine l B H.dp) (g:LogS) (n:Nat) (b:List UInt8):DpFine l B (fV H g n b).1.dp:=by
 unfold _root_.Go.Proofs.YtkkfmkhbdoeglabGreatDoor.fV
 have h1:=DpFine.writes (gA (g.stamp+1) b) H n h
 generalize gH (gA (g.stamp+1) b) H n=q at h1⊢
 obtain ⟨H1,r⟩:=q
 cases r with
 | some f=>exact h1
 | none=>exact h1.flush
theorem DpFine.gd {l:List Int} {B:Nat} {H:fP} (h:DpFine l B H.dp) (g:LogS) (v:Nat) (T:List E):DpFine l B (gd H g v T).1.dp:=by
 unfold _root_.Go.Proofs.YtkkfmkhbdoeglabGreatDoor.gd
 have h1:=h.fV g ((1-g.slot)*placeOf H.seen.length) (gX v T)
 generalize _root_.Go.Proofs.YtkkfmkhbdoeglabGreatDoor.fV H g ((1-g.slot)*placeOf H.seen.length) (gX v T)=q at h1⊢
 obtain ⟨H1,r⟩:=q
 cases r with
 | some f=>exact h1
 | none=>exact h1
theorem DpFine.gM {l:List Int} {B:Nat} {H:fP} (h:DpFine l B H.dp) (g:LogS) (b:List UInt8):DpFine l B (gM H g b).1.dp:=by
 unfold _root_.Go.Proofs.YtkkfmkhbdoeglabGreatDoor.gM
 have h1:=h.fV g g.next b
 generalize _root_.Go.Proofs.YtkkfmkhbdoeglabGreatDoor.fV H g g.next b=q at h1⊢
 obtain ⟨H1,r⟩:=q
 cases r with
 | some f=>exact h1
 | none=>exact h1
theorem DpFine.gY {l:List Int} {B:Nat} {H:fP} (h:DpFine l B H.dp) (g:LogS) (b:List UInt8) (v:Nat) (T:List E):DpFine l B (gY H g b v T).1.dp:=by
 unfold _root_.Go.Proofs.YtkkfmkhbdoeglabGreatDoor.gY
 split
 ·have h1:=h.gd g v T
  generalize _root_.Go.Proofs.YtkkfmkhbdoeglabGreatDoor.gd H g v T=q at h1⊢
  obtain ⟨H1,g1,r⟩:=q
  cases r with
  | some f=>exact h1
  | none=>exact DpFine.gM (H:=H1) h1 g1 b
 ·exact h.gM g b
theorem UpAg.slot {n:Nat} {l:List Int} {H:fP} {P:PAg} (h:UpAg n l H P):P.lg.slot<2:=by
 obtain ⟨d,v0,i,L,j,b,-⟩:=h.disk.inv
 rcases b with ⟨-,-,-,h1,-⟩ | ⟨h1,-⟩
 ·omega
 ·exact h1
theorem UpAg.len {n:Nat} {l:List Int} {H:fP} {P:PAg} (h:UpAg n l H P):H.seen.length=n:=by rw [h.disk.seen,h.disk.len]
theorem Fine.takes {n:Nat} {l:List Int} {B:Nat} {H:fP} {P:PAg} {tk:im} (h:Fine n l B H) (hu:UpAg n l H P) (j:vz P tk):Fine n l (B+1000) (j7 H P tk).1:=by
 unfold j7
 cases hl:iw (tk.T P.a.T) H.dp.room H.seen.length with
 | some f=>exact h.mono (by omega)
 | none =>
  simp only
  rw [h.dp.room,h.len] at hl
  obtain ⟨b,-⟩:=j.tab hu hl
  have k:HostOk (tk.log H P).1 (B+256)∧(tk.log H P).1.seen.length=H.seen.length∧DpFine l B (tk.log H P).1.dp:=by
   cases tk with
   | delta v os =>
    obtain ⟨d,i⟩:=h.ok.gY P.lg (jb v os) P.a.V P.a.T hu.slot (by rw [hu.len];exact hu.tab.size) j.2.2.2.2.1 (by rw [hu.len];exact hu.disk.next)
    exact ⟨d,i,h.dp.gY _ _ _ _⟩
   | state v T =>
    obtain ⟨d,i,-,-⟩:=h.ok.gd P.lg v T hu.slot (by rw [hu.len];exact b.size)
    exact ⟨d.mono (by omega),i,h.dp.gd _ _ _⟩
  generalize tk.log H P=q at k⊢
  obtain ⟨H1,g1,r⟩:=q
  obtain ⟨d,i,m⟩:=k
  have f1:Fine n l (B+256) H1:=⟨d,i.trans h.len,m.mono (by omega)⟩
  cases r with
  | some f=>exact f1.mono (by omega)
  | none=>exact (f1.nf b.good b.len).mono (by omega)
theorem Fine.recv {n:Nat} {l:List Int} {s B:Nat} {H:fP} {p:PAg} {a:AgA} {maybe:List (Nat×List E)} {ever:List E} {armed:Bool} (h:Fine n l B H) (hw:WInv n l s H (some p) a maybe ever armed) (hd:H.dp.dead=false) (frame:List UInt8):Fine n l (B+1000) (ij H p frame).1:=by
 obtain ⟨g1,g2,g3,g5,g6⟩:=hw.up p rfl hd
 have b:=hw.tabs _ hw.self
 unfold ij
 rw [g1]
 cases d:a.taken frame with
 | mk a1 r =>
  cases r with
  | none=>exact h.mono (by omega)
  | some tk =>
   obtain ⟨t1,t2,t3,t4,t5,t6⟩:=pL d b.sorted b.good p.sec p.lg
   obtain ⟨u,u2,u3⟩:=g5 t1
   have u1:=u.disk
   rw [g1,←t2,←t3] at u1
   have ut:=u.tab
   rw [g1,←t2,←t3] at ut
   exact h.takes (P := {p with a:=a1}) ⟨u1,by rw [t3];exact g3,u.room,ut,t4.trans t1⟩ t6
theorem Fine.readAll {n:Nat} {l:List Int} {B:Nat} {H:fP} (h:Fine n l B H):Fine n l B (readAll H).1:=by
 have b:=h.ok.fail
 have d:=h.ok.n
 unfold _root_.Go.Proofs.YtkkfmkhbdoeglabGreatDoor.readAll
 split
 ·exact ⟨⟨h.ok.n,h.ok.hl,h.ok.s64,h.ok.h64,h.ok.late,⟨by show (-1:Int)≤-1;omega,by show (-1:Int)≤_;omega⟩,h.ok.writes,h.ok.ll⟩,h.len,h.dp⟩
 ·rename_i hc
  refine ⟨⟨h.ok.n,h.ok.hl,h.ok.s64,h.ok.h64,h.ok.late,?_,h.ok.writes,h.ok.ll⟩,h.len,h.dp⟩
  show -1≤(if H.fail<0 then H.fail else H.fail-H.seen.length)∧(if H.fail<0 then H.fail else H.fail-H.seen.length)≤_
  split <;> omega
theorem nj {α:Type} (b:Nat→Bool):∀ (l:List (α×Nat)) (k:Nat) (d:List α),(applySel b k l d).length=d.length
 | [],_,_=>rfl
 | (p,n)::l,k,d=>by
  unfold applySel
  rw [nj b l]
  split
  ·rw [bW]
  ·rfl
theorem pg {α:Type} (j:Nat→Bool) (Q : α→Prop):∀ (l:List (α×Nat)) (k:Nat) (d:List α),(∀ x∈l,Q x.1)→(∀ b∈d,Q b)→∀ b∈applySel j k l d,Q b
 | [],_,_,_,hd=>hd
 | (p,n)::l,k,d,hl,hd=>by
  unfold applySel
  refine pg j Q l _ _ (fun y m=>hl y (by simp [m])) fun b i => ?_
  split at i
  ·rcases cS i with i | rfl
   ·exact hd b i
   ·exact hl (_,n) (by simp)
  ·exact hd b i
theorem Fine.again {n:Nat} {l:List Int} {B:Nat} {H:fP} (h:Fine n l B H) (mask cut fail:Int) (hc:cut≤9223372036854775807) (i:fail≤9223372036854775807):Fine n l B (H.again mask cut fail):=by
 have hl:(applySel (pI mask) 0 H.late H.held).length=H.seen.length:=by rw [nj];exact h.ok.hl
 have h64:∀ b∈applySel (pI mask) 0 H.late H.held,b.length=64:=pg _ (fun b=>b.length=64) _ _ _ (fun x d=>(h.ok.late x d).1) h.ok.h64
 refine ⟨⟨by show 32≤(applySel (pI mask) 0 H.late H.held).length∧(applySel (pI mask) 0 H.late H.held).length≤128;rw [hl];exact h.ok.n,rfl,h64,h64,fun x d=>(by cases d),⟨by show (-1:Int)≤max fail (-1);omega,by show max fail (-1)≤_;omega⟩,h.ok.writes,aM _⟩,hl.trans h.len,⟨h.dp.there,h.dp.room,h.dp.log,⟨by show (-1:Int)≤max cut (-1);omega,by show max cut (-1)≤_;omega⟩⟩⟩
theorem Fine.mT {n:Nat} {l:List Int} {B:Nat} {H:fP} (h:Fine n l B H) (k b d:Int) (lg:List (List UInt8)) (hk:0≤k∧k≤B) (h1 : -1≤b∧b≤9223372036854775807) (h2 : -1≤d∧d≤9223372036854775807) (h3:lg.length≤B):Fine n l B {H with writes:=k,fail:=d,dp := {H.dp with left:=b,log:=lg}} :=
 ⟨⟨h.ok.n,h.ok.hl,h.ok.s64,h.ok.h64,h.ok.late,h2,hk,h.ok.ll⟩,h.len,⟨h.dp.there,h.dp.room,h3,h1⟩⟩
structure tW (n:Nat) (l:List Int) (B:Nat) (H:fP) (p:PAg):Prop where
 fine:Fine n l B H
 low:B≤800000000
 fit:p.a.Fit
 up:p.a.deg=none→UpAg n l H p
 stamp:p.lg.stamp<8999999999999999999
def mG (n:Nat) (l:List Int) (seen:List (List UInt8)):Prop:=∃ g v T,Bf seen=(g,v,T)∧DiskInv decSB decDB foldS [] (seen.map parseSec) (placeOf n) g.slot v T g.next∧TabOk n (roomN l) v T
theorem WInv.opens {n:Nat} {l:List Int} {s:Nat} {H:fP} {P:Option PAg} {a:AgA} {maybe:List (Nat×List E)} {ever:List E} {armed:Bool} (h:WInv n l s H P a maybe ever armed) (mask cut fail:Int):mG n l (H.again mask cut fail).seen:=by
 obtain ⟨m1,m2,m3,-,-,-⟩:=vE h.may mask cut fail
 obtain ⟨v,T,hc,b⟩:=m1 fun _=>true
 rw [m2] at b
 obtain ⟨g,d,-,-,-,hd⟩:=pD (show lK n (H.again mask cut fail).held s v T from b)
 exact ⟨g,v,T,by rw [m3];exact d,by rw [m3];exact hd,h.tabs _ hc⟩
theorem yt (n:Nat) (l:List Int) (d:32≤n∧n≤128):mG n l (mZ n (roomN l)).seen:=by
 obtain ⟨m1,m2,m3,-,-⟩:=Bc n l d
 obtain ⟨v,T,⟨rfl,rfl⟩,b⟩:=m1 fun _=>true
 rw [m2] at b
 obtain ⟨g,i,-,-,-,hd⟩:=pD (show lK n (mZ n (roomN l)).held 0 0 [] from b)
 exact ⟨g,0,[],by rw [m3];exact i,by rw [m3];exact hd,TabOk.nil n l⟩
theorem Fine.start {n:Nat} {l:List Int} {B:Nat} {H:fP} (h:Fine n l B H) (d:mG n l H.seen):Fine n l (B+480) (ie H).1:=by
 obtain ⟨g,v,T,i,-,b⟩:=d
 have h1:=h.readAll
 unfold ie
 generalize _root_.Go.Proofs.YtkkfmkhbdoeglabGreatDoor.readAll H=q at h1⊢
 obtain ⟨H1,r⟩:=q
 cases r with
 | some f=>exact h1.mono (by omega)
 | none =>
  simp only
  rw [i]
  simp only
  split
  ·exact h1.mono (by omega)
  ·exact h1.nf b.good b.len
theorem Fine.new (n:Nat) (l:List Int) (i:32≤n∧n≤128):Fine n l 0 (mZ n (roomN l)):=by
 have j:iH.length=64:=by decide
 have h64:∀ b∈List.replicate n iH,b.length=64:=fun b m=>by rw [List.eq_of_mem_replicate m];exact j
 refine ⟨⟨by show 32≤(List.replicate n iH).length∧(List.replicate n iH).length≤128;rw [bF];exact i,rfl,h64,h64,fun x d=>(by cases d),⟨by show (-1:Int)≤-1;omega,by show (-1:Int)≤_;omega⟩,⟨Int.le_refl _,Int.le_refl _⟩,af _⟩,bF ..,⟨⟨SortedE.nil,fun x d=>(by cases d),fun t o => ?_,fun x d=>(by cases d)⟩,rfl,af _,⟨by show (-1:Int)≤-1;omega,by show (-1:Int)≤_;omega⟩⟩⟩
 exact (kJ l t).1
end Go.Proofs.YtkkfmkhbdoeglabGreatDoor
namespace Go.Proofs.YtkkfmkhbdoeglabGreatDoor
theorem rE:∀ (l:List (List UInt8)) (H:fP) (n f:Nat),(gH l H n).2=some f→f≤n+l.length+1
 | [],H,n,f,h=>by cases h
 | s::l,H,n,f,h=>by
  unfold gH at h
  have h1:∀ g,(H.write n s).2=some g→g=n+2:=fun g b=>by
   unfold fP.write at b
   split at b
   ·cases b;rfl
   ·cases b
  generalize H.write n s=q at h h1
  obtain ⟨H1,r⟩:=q
  cases r with
  | some g =>
   obtain rfl:g=f:=by simpa using h
   have:=h1 g rfl
   rw [ar]
   omega
  | none =>
   have:=rE l H1 (n+1) f h
   rw [ar]
   omega
theorem qi {H:fP} {g:LogS} {at' f:Nat} {data:List UInt8} (h:(fV H g at' data).2=some f):f≤at'+partsOf data.length+1:=by
 unfold fV at h
 have h1:=rE (gA (g.stamp+1) data) H at'
 rw [jd] at h1
 generalize gH (gA (g.stamp+1) data) H at'=q at h h1
 obtain ⟨H1,r⟩:=q
 cases r with
 | some k =>
  obtain rfl:k=f:=by simpa using h
  exact h1 k rfl
 | none =>
  simp only at h
  unfold fP.flush at h
  split at h
  ·cases h;omega
  ·split at h <;> cases h
theorem wD {H:fP} {g:LogS} {v f:Nat} {T:List E} (h:(gd H g v T).2.2=some f):f≤placeOf H.seen.length+partsOf (gX v T).length+1:=by
 unfold gd at h
 have h1:∀ f,(fV H g ((1-g.slot)*placeOf H.seen.length) (gX v T)).2=some f→f≤(1-g.slot)*placeOf H.seen.length+partsOf (gX v T).length+1:=fun f=>qi
 have h2:(1-g.slot)*placeOf H.seen.length≤placeOf H.seen.length:=by
  rcases (show 1-g.slot=0∨1-g.slot=1 by omega) with e | e <;> rw [e] <;> omega
 generalize fV H g ((1-g.slot)*placeOf H.seen.length) (gX v T)=q at h h1
 obtain ⟨H1,r⟩:=q
 cases r with
 | some k =>
  obtain rfl:k=f:=by simpa [CO] using h
  have:=h1 k rfl
  omega
 | none=>cases h
theorem wL {H:fP} {g:LogS} {f:Nat} {b:List UInt8} (h:(gM H g b).2.2=some f):f≤g.next+partsOf b.length+1:=by
 unfold gM at h
 have h1:∀ f,(fV H g g.next b).2=some f→f≤g.next+partsOf b.length+1:=fun f=>qi
 generalize fV H g g.next b=q at h h1
 obtain ⟨H1,r⟩:=q
 cases r with
 | some k =>
  obtain rfl:k=f:=by simpa [qm] using h
  exact h1 k rfl
 | none=>cases h
theorem Fl {n:Nat} {l:List Int} {B:Nat} {H:fP} {P:PAg} {tk:im} (i:Fine n l B H) (hu:UpAg n l H P) (x:vz P tk) (b:P.a.Fit) (y:tk.V<18446744073709551615) :
  (j7 H P tk).2.a.Fit∧∀ f,(j7 H P tk).2.a.deg=some f→1≤f.1∧f.1≤14∧(j7 H P tk).2.sec≤100000:=by
 have m:∀ (a:AgA) (f:Nat×Nat),(a.stops f).deg=some f:=fun a f=>(jc {a with deg:=some f} 18 [UInt8.ofNat f.1]).1
 unfold j7
 cases hl:iw (tk.T P.a.T) H.dp.room H.seen.length with
 | some f =>
  simp only
  refine ⟨b.stops f,fun g d => ?_⟩
  rw [m] at d
  cases d
  unfold iw at hl
  split at hl
  ·cases hl;exact ⟨by show 1≤10;omega,by show 10≤14;omega,by show 0≤_;omega⟩
  ·split at hl
   ·cases hl;exact ⟨by show 1≤11;omega,by show 11≤14;omega,by show 0≤_;omega⟩
   ·cases hl
 | none =>
  simp only
  rw [i.dp.room,i.len] at hl
  obtain ⟨s,-⟩:=x.tab hu hl
  have u:=i.ok.n
  rw [i.len] at u
  have C:=jq u.1 u.2
  have o:∀ (v:Nat) (T:List E),sizeS T≤16*(n-8)→partsOf (gX v T).length≤placeOf n:=fun v T h=>mR (by rw [mn];omega)
  have key:∀ f,(tk.log H P).2.2=some f→f≤100000:=by
   intro f h
   cases tk with
   | state v T =>
    have h1:=wD h
    rw [i.len] at h1
    have:=o v T s.size
    omega
   | delta v os =>
    have j:(gY H P.lg (jb v os) P.a.V P.a.T).2.2=some f:=h
    have hlen:(jb v os).length≤700:=x.2.2.2.2.1
    have D:partsOf (jb v os).length≤14:=by unfold partsOf;omega
    have F:=hu.disk.next
    unfold gY at j
    split at j
    ·have h1:∀ f,(gd H P.lg P.a.V P.a.T).2.2=some f→f≤placeOf H.seen.length+partsOf (gX P.a.V P.a.T).length+1:=fun f=>wD
     have h2:(gd H P.lg P.a.V P.a.T).2.2=none→(gd H P.lg P.a.V P.a.T).2.1.next=2*placeOf H.seen.length:=by
      unfold gd
      generalize fV H P.lg ((1-P.lg.slot)*placeOf H.seen.length) (gX P.a.V P.a.T)=q
      obtain ⟨H1,r⟩:=q
      cases r with
      | some f=>intro e;cases e
      | none=>intro _;rfl
     have h3:=o P.a.V P.a.T hu.tab.size
     rw [i.len] at h1 h2
     generalize gd H P.lg P.a.V P.a.T=q at j h1 h2
     obtain ⟨H1,g1,r⟩:=q
     cases r with
     | some k =>
      obtain rfl:k=f:=by simpa [Gv] using j
      have:=h1 k rfl
      omega
     | none =>
      have h4:=wL (show (gM H1 g1 (jb v os)).2.2=some f from j)
      have h5:g1.next=2*placeOf n:=h2 rfl
      omega
    ·have:=wL j
     omega
  generalize tk.log H P=q at key
  obtain ⟨H1,g1,r⟩:=q
  cases r with
  | some f =>
   refine ⟨b.stops _,fun g d => ?_⟩
   rw [show (vm P tk (H1,g1,some f)).2.a=P.a.stops (12,0) from rfl,m] at d
   cases d
   exact ⟨by show 1≤12;omega,by show 12≤14;omega,key f rfl⟩
  | none =>
   refine ⟨AgA.Fit.lQ ⟨y,b.out,b.olen,b.com⟩,fun g d => ?_⟩
   have h1:(AgA.lQ {P.a with V:=tk.V,T:=tk.T P.a.T}).deg=P.a.deg:=(jc {P.a with V:=tk.V,T:=tk.T P.a.T} 17 (be8 tk.V)).1
   have h2:(vm P tk (H1,g1,none)).2.a=AgA.lQ {P.a with V:=tk.V,T:=tk.T P.a.T} := rfl
   rw [h2,h1,hu.deg] at d
   cases d
structure MachSt (n:Nat) (l:List Int) (s B:Nat) (H:fP) (P:Option PAg) (a:AgA) (maybe:List (Nat×List E)) (ever:List E) (armed:Bool):Prop where
 inv:WInv n l s H P a maybe ever armed
 fine:Fine n l B H
 fit:∀ p,P=some p→p.a.Fit
 sec:∀ p f,P=some p→p.a.deg=some f→1≤f.1∧f.1≤14∧p.sec≤100000
theorem MachSt.recv {n:Nat} {l:List Int} {s B:Nat} {H:fP} {p:PAg} {a:AgA} {maybe:List (Nat×List E)} {ever:List E} {armed:Bool} (h:MachSt n l s B H (some p) a maybe ever armed) (hd:H.dp.dead=false) (frame:List UInt8) {s':Nat} {P':Option PAg} {x:AgA} {b:List (Nat×List E)} {ever':List E} {d:Bool} (y:P'=some (ij H p frame).2) (hw:WInv n l s' (ij H p frame).1 P' x b ever' d):MachSt n l s' (B+1000) (ij H p frame).1 P' x b ever' d:=by
 subst y
 refine ⟨hw,h.fine.recv h.inv hd frame,?_,?_⟩
 all_goals
  obtain ⟨g1,g2,g3,g5,g6⟩:=h.inv.up p rfl hd
  have j:=h.inv.tabs _ h.inv.self
  have i:=(h.fit p rfl).taken frame
  have m:∀ f,p.a.deg=some f→1≤f.1∧f.1≤14∧p.sec≤100000:=fun f=>h.sec p f rfl
  have key:(ij H p frame).2.a.Fit∧∀ f,(ij H p frame).2.a.deg=some f→1≤f.1∧f.1≤14∧(ij H p frame).2.sec≤100000:=by
   unfold ij
   rw [g1] at i m⊢
   cases o:a.taken frame with
   | mk a1 r =>
    rw [o] at i
    cases r with
    | none =>
     refine ⟨i,fun f C => ?_⟩
     obtain ⟨-,-,h3⟩:=pK o
     exact m f (by rw [←h3];exact C)
    | some tk =>
     obtain ⟨t1,t2,t3,t4,t5,t6⟩:=pL o j.sorted j.good p.sec p.lg
     obtain ⟨u,u2,u3⟩:=g5 t1
     have u1:=u.disk
     rw [g1,←t2,←t3] at u1
     have ut:=u.tab
     rw [g1,←t2,←t3] at ut
     refine Fl (P := {p with a:=a1}) h.fine ⟨u1,by rw [t3];exact g3,u.room,ut,t4.trans t1⟩ t6 i ?_
     cases tk with
     | delta v os=>exact ki t6.2.1
     | state v T=>exact ki t6.2.1
 ·intro q hq
  cases hq
  exact key.1
 ·intro q f hq
  cases hq
  exact key.2 f
def NoCut (d:DpS):Prop:=d.left = -1∧d.dead=false
theorem NoCut.stop {d:DpS} (h:NoCut d):NoCut d.stop:=by
 have:d.stop=d:=by
  obtain ⟨l,b,r,S,g⟩:=d
  obtain ⟨h1,h2⟩:=h
  simp only at h1 h2
  subst h1 h2
  rfl
 rw [this]
 exact h
theorem NoCut.run:∀ (os:List rF) {d:DpS},NoCut d→NoCut (d.run os)
 | [],_,h=>h
 | o::os,d,h=>by
  refine NoCut.run os (d:=d.step o) ?_
  have hs:=h.stop
  obtain ⟨k,v⟩:=o
  cases v with
  | none =>
   unfold DpS.step DpS.drop
   simp only
   split <;> exact hs
  | some v =>
   unfold DpS.step DpS.put
   simp only
   split
   ·exact hs
   ·split <;> exact hs
theorem NoCut.write {H:fP} (h:NoCut H.dp) (n:Nat) (s:List UInt8):NoCut (H.write n s).1.dp:=by
 unfold fP.write
 split
 ·exact h
 ·exact h.stop
theorem NoCut.writes:∀ (ps:List (List UInt8)) (H:fP) (n:Nat),NoCut H.dp→NoCut (gH ps H n).1.dp
 | [],_,_,h=>h
 | s::ps,H,n,h=>by
  unfold gH
  have h1:=h.write n s
  generalize H.write n s=q at h1⊢
  obtain ⟨H1,r⟩:=q
  cases r with
  | some f=>exact h1
  | none=>exact NoCut.writes ps H1 (n+1) h1
theorem NoCut.flush {H:fP} (h:NoCut H.dp):NoCut H.flush.1.dp:=by
 unfold fP.flush
 split
 ·exact h
 ·split <;> exact h.stop
theorem NoCut.fV {H:fP} (h:NoCut H.dp) (g:LogS) (n:Nat) (b:List UInt8):NoCut (fV H g n b).1.dp:=by
 unfold _root_.Go.Proofs.YtkkfmkhbdoeglabGreatDoor.fV
 have h1:=NoCut.writes (gA (g.stamp+1) b) H n h
 generalize gH (gA (g.stamp+1) b) H n=q at h1⊢
 obtain ⟨H1,r⟩:=q
 cases r with
 | some f=>exact h1
 | none=>exact h1.flush
theorem NoCut.gd {H:fP} (h:NoCut H.dp) (g:LogS) (v:Nat) (T:List E):NoCut (gd H g v T).1.dp:=by
 unfold _root_.Go.Proofs.YtkkfmkhbdoeglabGreatDoor.gd
 have h1:=h.fV g ((1-g.slot)*placeOf H.seen.length) (gX v T)
 generalize _root_.Go.Proofs.YtkkfmkhbdoeglabGreatDoor.fV H g ((1-g.slot)*placeOf H.seen.length) (gX v T)=q at h1⊢
 obtain ⟨H1,r⟩:=q
 cases r with
 | some f=>exact h1
 | none=>exact h1
theorem NoCut.gM {H:fP} (h:NoCut H.dp) (g:LogS) (b:List UInt8):NoCut (gM H g b).1.dp:=by
 unfold _root_.Go.Proofs.YtkkfmkhbdoeglabGreatDoor.gM
 have h1:=h.fV g g.next b
 generalize _root_.Go.Proofs.YtkkfmkhbdoeglabGreatDoor.fV H g g.next b=q at h1⊢
 obtain ⟨H1,r⟩:=q
 cases r with
 | some f=>exact h1
 | none=>exact h1
theorem NoCut.gY {H:fP} (h:NoCut H.dp) (g:LogS) (b:List UInt8) (v:Nat) (T:List E):NoCut (gY H g b v T).1.dp:=by
 unfold _root_.Go.Proofs.YtkkfmkhbdoeglabGreatDoor.gY
 split
 ·have h1:=h.gd g v T
  generalize _root_.Go.Proofs.YtkkfmkhbdoeglabGreatDoor.gd H g v T=q at h1⊢
  obtain ⟨H1,g1,r⟩:=q
  cases r with
  | some f=>exact h1
  | none=>exact NoCut.gM (H:=H1) h1 g1 b
 ·exact h.gM g b
theorem NoCut.takes {H:fP} (h:NoCut H.dp) (p:PAg) (tk:im):NoCut (j7 H p tk).1.dp:=by
 unfold j7
 split
 ·exact h
 ·have h1:NoCut (tk.log H p).1.dp:=by
   cases tk with
   | delta v os=>exact h.gY _ _ _ _
   | state v T=>exact h.gd _ _ _
  generalize tk.log H p=q at h1⊢
  obtain ⟨H1,g1,r⟩:=q
  cases r with
  | some f=>exact h1
  | none=>exact NoCut.run _ h1
theorem NoCut.recv {H:fP} (h:NoCut H.dp) (p:PAg) (frame:List UInt8):NoCut (ij H p frame).1.dp:=by
 unfold ij
 split
 ·exact h
 ·exact h.takes _ _
theorem NoCut.start {H:fP} (h:NoCut H.dp):NoCut (ie H).1.dp:=by
 unfold ie readAll
 split
 ·rename_i H1 f he
  split at he
  ·cases he;exact h
  ·cases he
 ·rename_i H1 he
  have h1:NoCut H1.dp:=by
   split at he
   ·cases he
   ·cases he;exact h
  simp only
  split
  ·exact h1
  ·exact NoCut.run _ h1
theorem Fm (a:AgA):a.tick.V=a.V∧a.tick.T=a.T∧a.tick.deg=a.deg:=by
 have h:∀ k b,(a.put k b).V=a.V∧(a.put k b).T=a.T∧(a.put k b).deg=a.deg:=fun k b=>⟨(jc a k b).2.1,(jc a k b).2.2,(jc a k b).1⟩
 unfold AgA.tick
 split
 ·exact h _ _
 ·split
  ·exact h _ _
  ·exact h _ _
theorem EN (a:AgA):a.next.1.V=a.V∧a.next.1.T=a.T∧a.next.1.deg=a.deg:=by
 unfold AgA.next
 split <;> exact ⟨rfl,rfl,rfl⟩
theorem MachSt.own {n:Nat} {l:List Int} {s B:Nat} {H:fP} {p:PAg} {a a1:AgA} {maybe:List (Nat×List E)} {ever:List E} {armed:Bool} (h:MachSt n l s B H (some p) a maybe ever armed) (h1:a1.V=a.V) (h2:a1.T=a.T) (h3:a1.deg=a.deg) (b:p.a.deg=a.deg) (d:a1.Fit):MachSt n l s B H (some {p with a:=a1}) a1 maybe ever armed :=
 ⟨h.inv.own h1 h2 h3,h.fine,fun q hq=>by cases hq;exact d,fun q f hq hd=>by
  cases hq
  exact h.sec p f rfl (by rw [b,←h3];exact hd)⟩
theorem MachSt.mT {n:Nat} {l:List Int} {s B:Nat} {H:fP} {P:Option PAg} {a:AgA} {maybe:List (Nat×List E)} {ever:List E} {armed:Bool} (h:MachSt n l s B H P a maybe ever armed) (k i d:Int) (lg:List (List UInt8)) (b:Bool) (ha:0≤d→b=true) (hk:0≤k∧k≤B) (h1 : -1≤i∧i≤9223372036854775807) (h2 : -1≤d∧d≤9223372036854775807) (h3:lg.length≤B) :
  MachSt n l s B {H with writes:=k,fail:=d,dp := {H.dp with left:=i,log:=lg}} P a maybe ever b:=⟨h.inv.mT k i d lg b ha,h.fine.mT k i d lg hk h1 h2 h3,h.fit,h.sec⟩
theorem MachSt.mono {n:Nat} {l:List Int} {s t B C:Nat} {H:fP} {P:Option PAg} {a:AgA} {maybe:List (Nat×List E)} {ever ever':List E} {armed:Bool} (h:MachSt n l s B H P a maybe ever armed) (hs:s≤t) (b:B≤C) (he:∀ x∈ever,x∈ever'):MachSt n l t C H P a maybe ever' armed:=⟨h.inv.mono hs he,h.fine.mono b,h.fit,h.sec⟩
theorem Bw {H H':fP} {k at' f:Nat} (b:32≤H.seen.length∧H.seen.length≤128) (h:ie H=(H',.inr (k,at',f))):f≤100000:=by
 unfold ie readAll at h
 split at h
 ·rename_i H1 g he
  split at he
  ·cases he;cases h;omega
  ·cases he
 ·rename_i H1 he
  simp only at h
  split at h
  ·cases h;omega
  ·cases h
theorem MachSt.pG {n:Nat} {l:List Int} {s B:Nat} {H:fP} {P:Option PAg} {a:AgA} {maybe:List (Nat×List E)} {ever:List E} {armed:Bool} (h:MachSt n l s B H P a maybe ever armed) (mask cut fail:Int) (hc:cut≤9223372036854775807) (j:fail≤9223372036854775807) :
  (∃ H' f,ie (H.again mask cut fail)=(H',.inr (12,0,f))∧1≤f∧f≤100000∧0≤fail∧MachSt n l s (B+480) H' none a maybe ever (decide (0≤fail))∧∀ x∈H'.dp.S,x∈ever)∨
  (∃ H' p v T,ie (H.again mask cut fail)=(H',.inl p)∧(v,T)∈maybe∧p.a=begunA v T∧(∀ x∈H'.dp.S,x∈ever)∧(H'.dp.dead=true→MachSt n l s (B+480) H' (some p) a maybe ever (decide (0≤fail)))∧
   (H'.dp.dead=false→MachSt n l s (B+480) H' (some p) (begunA v T) [(v,T)] ever (decide (0≤fail)))):=by
 have b:=(h.fine.again mask cut fail hc j).start (h.inv.opens mask cut fail)
 rcases h.inv.pG mask cut fail with ⟨H',f,h1,h2,h3,h4,h5⟩ | ⟨H',p,v,T,h1,h2,h3,h4,h5,h6⟩
 ·left
  have m:=Bw (h.fine.again mask cut fail hc j).ok.n h1
  rw [h1] at b
  exact ⟨H',f,h1,h2,m,h3,⟨h4,b,fun q hq=>(by cases hq),fun q f hq=>(by cases hq)⟩,h5⟩
 ·right
  rw [h1] at b
  have d:p.a.Fit:=by rw [h3];exact AgA.Fit.begun v T (h.inv.tabs _ h2).v64
  have i:∀ q f,some p=some q→q.a.deg=some f→1≤f.1∧f.1≤14∧q.sec≤100000:=fun q f hq hd=>by
   cases hq
   rw [h3,(jJ v T).2.2] at hd
   cases hd
  exact ⟨H',p,v,T,h1,h2,h3,h4,fun hd=>⟨h5 hd,b,fun q hq=>(by cases hq;exact d),i⟩,fun hd=>⟨h6 hd,b,fun q hq=>(by cases hq;exact d),i⟩⟩
theorem MachSt.begun (n:Nat) (l:List Int) (i:32≤n∧n≤128) :
  ∃ H' p,ie (mZ n (roomN l))=(H',.inl p)∧p.a=begunA 0 []∧H'.dp.dead=false∧H'.dp.left = -1∧H'.dp.log=[]∧MachSt n l 0 480 H' (some p) (begunA 0 []) [(0,[])] [] false:=by
 obtain ⟨H',p,h1,h2,h3,h4,h5⟩:=WInv.begun n l i
 have b:=(Fine.new n l i).start (yt n l i)
 have d:NoCut (ie (mZ n (roomN l))).1.dp:=NoCut.start (H:=mZ n (roomN l)) ⟨rfl,rfl⟩
 rw [h1] at b d
 refine ⟨H',p,h1,h2,h3,d.1,h4,h5,b.mono (by omega),fun q hq => ?_,fun q f hq hd => ?_⟩
 ·cases hq
  rw [h2]
  exact AgA.Fit.begun 0 [] (by omega)
 ·cases hq
  rw [h2,(jJ 0 []).2.2] at hd
  cases hd
end Go.Proofs.YtkkfmkhbdoeglabGreatDoor
