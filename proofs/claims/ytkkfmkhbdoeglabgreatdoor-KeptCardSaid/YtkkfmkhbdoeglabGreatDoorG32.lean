/- A part of what is proved here: lemmas and contracts of single functions. No condition but those that each names. -/
import Derived.Test.YtkkfmkhbdoeglabGreatDoorG00
import Derived.BigRegion
import Derived.RegionTactic
import Derived.Test.YtkkfmkhbdoeglabGreatDoorG03
import Derived.Test.YtkkfmkhbdoeglabGreatDoorG26
import Derived.Test.YtkkfmkhbdoeglabGreatDoorG29
import Derived.Test.YtkkfmkhbdoeglabGreatDoorG31
set_option maxHeartbeats 4000000
set_option maxRecDepth 100000
namespace Go.Proofs.YtkkfmkhbdoeglabGreatDoor
structure In60 (S:List E):Prop where
 sorted:SortedE S
 keys:∀ x∈S,∃ n,n<60∧x.1=keyN n
 good:∀ x∈S,EntGood x
theorem In60.nil:In60 []:=⟨SortedE.nil,fun _ h=>(by cases h),fun _ h=>(by cases h)⟩
theorem DT (c d:Int):∃ n,n<60∧((td c d).table,(td c d).key)=keyN n:=by
 have h:=iV c 60 (by omega)
 refine ⟨(ji c 60).toNat,by omega,?_⟩
 unfold td
 simp only
 split
 ·rfl
 ·split <;> rfl
theorem qa:∀ (m:Nat) (l:List Int) (os:List OpB),l.length≤m→(∀ o∈os,∃ n,n<60∧(o.table,o.key)=keyN n)→∀ o∈iq l os,∃ n,n<60∧(o.table,o.key)=keyN n
 | _,[],_,_,h=>h
 | _,[_],_,_,h=>h
 | 0,a::b::r,os,hm,h=>by simp at hm
 | m+1,a::b::r,os,hm,h=>by
  unfold iq
  split
  ·refine qa m r _ (by simp at hm;omega) fun o d => ?_
   split at d
   ·exact h o d
   ·rcases bE.1 d with d | d
    ·exact h o d
    ·rw [ax.1 d]
     exact DT a b
  ·exact h
theorem Au (l:List Int):∀ o∈fZ l,∃ n,n<60∧(o.table,o.key)=keyN n :=
 qa l.length l _ (af _) fun o b=>by
  rw [ax.1 b]
  exact DT _ _
theorem In60.fold {S:List E} (h:In60 S) (l:List Int):In60 (foldS S (fZ l)):=by
 refine ⟨oz _ h.sorted,fun x b => ?_,((⟨af _,h.sorted,h.good⟩:jQ S.length S).fold (jr l 1 (by decide))).good⟩
 rcases tG (fZ l) S x b with b | ⟨o,d,-,e⟩
 ·exact h.keys x b
 ·obtain ⟨n,i,j⟩:=Au l o d
  exact ⟨n,i,(aZ Prod.fst e).trans j⟩
def DH:List E:=(List.range 60).map fun n=>(keyN n,[])
theorem lr:countS 0 DH=20∧countS 1 DH=20∧countS 2 DH=20:=by decide +kernel
theorem In60.count {S:List E} (h:In60 S) (t:Int):countS t S≤countS t DH:=qK h.sorted (fun x b=>by
 obtain ⟨n,d,e⟩:=h.keys x b
 exact aB.2 ⟨(keyN n,[]),aB.2 ⟨n,cU.2 d,rfl⟩,e.symm⟩) t
theorem rU {S:List E} (h:∀ x∈S,EntGood x):sizeS S=11*countS 0 S+10*countS 1 S+5*countS 2 S:=by
 induction S with
 | nil=>rfl
 | cons x S ih =>
  have h1:=ih fun y b=>h y (by simp [b])
  obtain ⟨g0,g2,g3,g4⟩:=h x (by simp)
  have d:=js g3
  have i:=iT g0 g2 g4
  unfold sizeS countS at h1⊢
  rw [dg,dg,dg,bq,List.sum_cons,h1,d,i]
  have h4:x.1.1=0∨x.1.1=1∨x.1.1=2:=by omega
  rcases h4 with h4 | h4 | h4 <;> simp [h4,fS,gw] <;> omega
theorem In60.Gb {S:List E} (h:In60 S) {n:Nat} (b:48≤n):iw S (roomN []) n=none:=by
 have c0:=h.count 0
 have c1:=h.count 1
 have c2:=h.count 2
 rw [lr.1] at c0
 rw [lr.2.1] at c1
 rw [lr.2.2] at c2
 have hs:=rU h.good
 unfold iw overS
 have r0:roomN [] 0=40:=rfl
 have r1:roomN [] 1=40:=rfl
 have r2:roomN [] 2=40:=rfl
 rw [r0,r1,r2,au (by omega),au (by omega),au (by omega)]
 simp only
 rw [au (by omega)]
theorem BC {a:AgA} {os:List OpB} (hd:a.deg=none) (hw:gK (a.V+1) os=none):a.taken (sealB 1 (jb (a.V+1) os))=(a,some (.delta (a.V+1) os)):=by
 unfold AgA.taken
 rw [hd,mi]
 simp only [Option.isSome_none,ek,df,dM]
 unfold AgA.delta
 rw [nN,DK _ _ hw]
 simp only
 rw [au (by omega),au (by omega)]
theorem wC {n s:Nat} {H:fP} {p:PAg} {a:AgA} {maybe:List (Nat×List E)} {ever:List E} {armed:Bool} (h:WInv n [] s H (some p) a maybe ever armed) (u:48≤n∧n≤128) (hs:s+2<18446744073709551616) (hd:H.dp.dead=false) (l:a.deg=none) (o:In60 a.T) (y:isVersionB (a.V+1)=true) (raw:List Int) :
  ∃ H' d ever' b,ij H p (sealB 1 (jb (a.V+1) (fZ raw)))=(H',d)∧b=AgA.lQ {a with V:=a.V+1,T:=foldS a.T (fZ raw)}∧In60 (foldS a.T (fZ raw))∧
   (H'.dp.dead=true→WInv n [] (s+2) H' (some d) a [(a.V,a.T),(a.V+1,foldS a.T (fZ raw))] ever' armed)∧
   (H'.dp.dead=false→(d.a=b∧d.sec=0∧WInv n [] (s+2) H' (some d) b [(a.V+1,foldS a.T (fZ raw))] ever' armed)∨
    (d.a=a.stops (12,0)∧1≤d.sec∧armed=true∧WInv n [] (s+2) H' (some d) (a.stops (12,0)) [(a.V,a.T),(a.V+1,foldS a.T (fZ raw))] ever' armed)):=by
 have hw:=jr raw (a.V+1) y
 have j:=o.fold raw
 have hl:iw ((im.delta (a.V+1) (fZ raw)).T a.T) (roomN []) n=none:=j.Gb u.1
 obtain ⟨H',d,B,N,q,r⟩:=h.takes (by omega) hs hd (BC l hw) hl (ever':=ever++foldS a.T (fZ raw)) fun x i=>by
  rcases i with i | i
  ·exact dR _ i
  ·exact List.mem_append_right _ i
 have m:a.takes (.delta (a.V+1) (fZ raw)) (roomN []) n=AgA.lQ {a with V:=a.V+1,T:=foldS a.T (fZ raw)} := by
  unfold AgA.takes
  rw [hl]
  rfl
 obtain ⟨-,C,D⟩:=jc {a with V:=a.V+1,T:=foldS a.T (fZ raw)} 17 (be8 (a.V+1))
 have F:(a.takes (.delta (a.V+1) (fZ raw)) (roomN []) n).V=a.V+1:=by rw [m];exact C
 have G:(a.takes (.delta (a.V+1) (fZ raw)) (roomN []) n).T=foldS a.T (fZ raw):=by rw [m];exact D
 rw [F,G] at q r
 refine ⟨H',d,_,_,B,m,j,fun hdd=>(q hdd).1,fun hdd => ?_⟩
 rcases r hdd with ⟨r1,r2,-,I⟩ | ⟨r1,r2,J,-,M⟩
 ·exact .inl ⟨r1,r2,I⟩
 ·exact .inr ⟨r1,r2,J,M⟩
end Go.Proofs.YtkkfmkhbdoeglabGreatDoor
namespace Go.Proofs.YtkkfmkhbdoeglabGreatDoor
structure jv (n k s B:Nat) (H:fP) (p:PAg) (T:List E) (armed:Bool):Prop where
 st:∃ ever,MachSt n [] s B H (some p) p.a [(k,T)] ever armed
 v:p.a.V=k
 t:p.a.T=T
 out:p.a.out=[]
 deg:p.a.deg=none
 t60:In60 T
 n48:48≤n∧n≤128
 dead:H.dp.dead=false
theorem AgA.FB {a:AgA} (h:a.out=[]):a.lQ.out=[sealB 17 (be8 a.V)]:=by
 unfold AgA.lQ AgA.put
 rw [h]
 rfl
theorem AgA.Fg {a:AgA} (h:a.out=[]) (f:Nat×Nat):(a.stops f).out=[sealB 18 [UInt8.ofNat f.1]]:=by
 unfold AgA.stops AgA.gW AgA.put
 simp only [h]
 rfl
theorem iU {k:Nat} (h:0<k) (h2:k<18446744073709551615):isVersionB k=true:=by
 unfold isVersionB
 simp
 omega
theorem jv.recv {n k s B:Nat} {H:fP} {p:PAg} {T:List E} {armed:Bool} (h:jv n k s B H p T armed) (hs:s+2<18446744073709551616) (hk:k<1000000) (raw:List Int) :
  ∃ H' d,ij H p (sealB 1 (jb (k+1) (fZ raw)))=(H',d)∧In60 (foldS T (fZ raw))∧
  ((H'.dp.dead=true∧∃ ever,MachSt n [] (s+2) (B+1000) H' (some d) p.a [(k,T),(k+1,foldS T (fZ raw))] ever armed)∨
   (H'.dp.dead=false∧d.a.deg=none∧d.a.Fit∧d.a.out=[sealB 17 (be8 (k+1))]∧jv n (k+1) (s+2) (B+1000) H' {d with a := {d.a with out:=[]}} (foldS T (fZ raw)) armed)∨
   (H'.dp.dead=false∧d.a=p.a.stops (12,0)∧1≤d.sec∧armed=true∧∃ ever,MachSt n [] (s+2) (B+1000) H' (some d) d.a [(k,T),(k+1,foldS T (fZ raw))] ever armed)):=by
 obtain ⟨ever,l⟩:=h.st
 have D:isVersionB (p.a.V+1)=true:=iU (by omega) (by rw [h.v];omega)
 obtain ⟨H',d,ever',b,m,j,o,x,y⟩:=wC l.inv h.n48 hs h.dead h.deg (by rw [h.t];exact h.t60) D raw
 rw [h.v,h.t] at j x y
 rw [h.v] at m
 rw [h.t] at o
 have i := @MachSt.recv n [] s B H p p.a [(k,T)] ever armed l h.dead (sealB 1 (jb (k+1) (fZ raw)))
 rw [m] at i
 simp only at i
 refine ⟨H',d,m,o,?_⟩
 cases hd:H'.dp.dead with
 | true=>exact .inl ⟨rfl,ever',i rfl (x hd)⟩
 | false =>
  rcases y hd with ⟨r1,r2,q⟩ | ⟨r1,r2,q,F⟩
  ·refine .inr (.inl ⟨rfl,?_⟩)
   have hm:=i rfl q
   rw [←r1] at hm
   have r:=jc {p.a with V:=k+1,T:=foldS T (fZ raw)} 17 (be8 (k+1))
   have C:d.a.deg=none:=by rw [r1,j];exact r.1.trans h.deg
   have G:d.a.V=k+1:=by rw [r1,j];exact r.2.1
   have I:d.a.T=foldS T (fZ raw):=by rw [r1,j];exact r.2.2
   have J:d.a.out=[sealB 17 (be8 (k+1))]:=by rw [r1,j];exact AgA.FB (a := {p.a with V:=k+1,T:=foldS T (fZ raw)}) h.out
   have u:=hm.fit d rfl
   refine ⟨C,u,J,⟨ever',?_⟩,G,I,rfl,C,o,h.n48,hd⟩
   exact hm.own (a1 := {d.a with out:=[]}) rfl rfl rfl rfl ⟨u.v,by simp,by simp,u.com⟩
  ·refine .inr (.inr ⟨rfl,r1,r2,q,ever',?_⟩)
   rw [r1]
   exact i rfl F
theorem jv.new {n:Nat} (d:48≤n∧n≤128):∃ H' p,ie (mZ n (roomN []))=(H',.inl p)∧p.a=begunA 0 []∧H'.dp.left = -1∧H'.dp.log=[]∧jv n 0 0 480 H' {p with a := {p.a with out:=[]}} [] false:=by
 obtain ⟨H',p,h1,h2,h3,h4,h5,h6⟩:=MachSt.begun n [] (by omega)
 obtain ⟨i,j,l⟩:=jJ 0 []
 rw [←h2] at h6
 have b:=h6.fit p rfl
 refine ⟨H',p,h1,h2,h4,h5,⟨[],h6.own (a1 := {p.a with out:=[]}) rfl rfl rfl rfl ⟨b.v,by simp,by simp,b.com⟩⟩,by show p.a.V=0;rw [h2,i],by show p.a.T=[];rw [h2,j],rfl,by show p.a.deg=none;rw [h2,l],In60.nil,d,h3⟩
theorem sY (v k:Nat) (hk:k<18446744073709551616) (t:UInt8) (d:t=16∨t=17):(match ig (sealB t (be8 k)) with
 | .inl (k,b)=>if (k=16∨k=17)∧b.length=8 then iP b else v
 | .inr _=>v)=k:=by
 rw [mi]
 simp only
 rw [aD ⟨d,gm k⟩,sL k hk]
theorem jv.ready {n k s B:Nat} {H:fP} {p:PAg} {T:List E} {armed:Bool} (h:jv n k s B H p T armed) (d:B≤800000000) (hs:s<8999999999999999999):tW n [] B H p:=by
 obtain ⟨ever,b⟩:=h.st
 obtain ⟨-,g2,-,g5,-⟩:=b.inv.up p rfl h.dead
 exact ⟨b.fine,d,b.fit p rfl,fun e=>(g5 e).1,by omega⟩
structure jP (n s B:Nat) (H:fP) (p:PAg) (k:Nat) (T:List E) (maybe:List (Nat×List E)):Prop where
 st:∃ ever,MachSt n [] s B H (some p) p.a maybe ever true
 v:p.a.V=k
 t:p.a.T=T
 deg:p.a.deg=some (12,0)
 out:∀ f∈p.a.out,∃ b,f=sealB 18 b
 sec:1≤p.sec
 dead:H.dp.dead=false
theorem jP.ready {n k s B:Nat} {H:fP} {p:PAg} {T:List E} {d:List (Nat×List E)} (h:jP n s B H p k T d) (i:B≤800000000) (hs:s<8999999999999999999):tW n [] B H p:=by
 obtain ⟨ever,b⟩:=h.st
 obtain ⟨-,g2,-,g5,-⟩:=b.inv.up p rfl h.dead
 exact ⟨b.fine,i,b.fit p rfl,fun e=>(g5 e).1,by omega⟩
theorem jP.own {n k s B:Nat} {H:fP} {p:PAg} {T:List E} {d:List (Nat×List E)} (h:jP n s B H p k T d) {a1:AgA} (h1:a1.V=p.a.V) (h2:a1.T=p.a.T) (h3:a1.deg=p.a.deg) (j:a1.Fit) (l:∀ f∈a1.out,∃ b,f=sealB 18 b):jP n s B H {p with a:=a1} k T d:=by
 obtain ⟨ever,i⟩:=h.st
 exact ⟨⟨ever,i.own h1 h2 h3 rfl j⟩,h1.trans h.v,h2.trans h.t,h3.trans h.deg,l,h.sec,h.dead⟩
theorem vY {a:AgA} (h:∀ f∈a.out,∃ b,f=sealB 18 b) (k:Nat):∀ f∈(a.gW k).out,∃ b,f=sealB 18 b:=fun f d=>by
 unfold AgA.gW AgA.put at d
 split at d
 ·rcases bE.1 d with d | d
  ·exact h f d
  ·exact ⟨_,ax.1 d⟩
 ·exact h f d
theorem jP.recv {n k s B:Nat} {H:fP} {p:PAg} {T:List E} {d:List (Nat×List E)} (h:jP n s B H p k T d) (frame:List UInt8):ij H p frame=(H,{p with a:=p.a.gW 13})∧jP n s B H {p with a:=p.a.gW 13} k T d:=by
 obtain ⟨ever,i⟩:=h.st
 have b:=jc p.a 18 [UInt8.ofNat 13]
 refine ⟨?_,h.own b.2.1 b.2.2 b.1 ((i.fit p rfl).gW 13) (vY h.out 13)⟩
 unfold ij AgA.taken
 rw [h.deg]
 rfl
theorem jP.tick {n k s B:Nat} {H:fP} {p:PAg} {T:List E} {b:List (Nat×List E)} (h:jP n s B H p k T b):jP n s B H {p with a:=p.a.tick} k T b:=by
 obtain ⟨ever,d⟩:=h.st
 obtain ⟨t1,t2,t3⟩:=Fm p.a
 refine h.own t1 t2 t3 (d.fit p rfl).tick ?_
 unfold AgA.tick
 rw [h.deg]
 exact vY h.out 13
theorem jP.next {n k s B:Nat} {H:fP} {p:PAg} {T:List E} {i:List (Nat×List E)} (h:jP n s B H p k T i):jP n s B H {p with a:=p.a.next.1} k T i∧∀ f,p.a.next.2=some f→(∃ b,f=sealB 18 b)∧p.a.next.1.out.length+1=p.a.out.length:=by
 obtain ⟨ever,j⟩:=h.st
 obtain ⟨t1,t2,t3⟩:=EN p.a
 refine ⟨h.own t1 t2 t3 (j.fit p rfl).next fun f d => ?_,fun f d => ?_⟩
 ·unfold AgA.next at d
  split at d
  ·exact h.out f d
  ·rename_i s l e
   exact h.out f (by rw [e];exact aR _ d)
 ·unfold AgA.next at d⊢
  split at d
  ·cases d
  ·rename_i s l e
   cases d
   rw [e]
   exact ⟨h.out f (by rw [e];simp),rfl⟩
theorem jP.of {n k s B:Nat} {H H':fP} {p b:PAg} {T:List E} {armed:Bool} {i:List (Nat×List E)} {s' j:Nat} (h:jv n k s B H p T armed) (h1:H'.dp.dead=false) (h2:b.a=p.a.stops (12,0)) (h3:1≤b.sec) (h4:∃ ever,MachSt n [] s' j H' (some b) b.a i ever true):jP n s' j H' b k T i:=by
 have d:=jc {p.a with deg:=some (12,0)} 18 [UInt8.ofNat 12]
 refine ⟨h4,by rw [h2];exact d.2.1.trans h.v,by rw [h2];exact d.2.2.trans h.t,by rw [h2];exact d.1,fun f l => ?_,h3,h1⟩
 rw [h2,AgA.Fg h.out] at l
 exact ⟨_,ax.1 l⟩
theorem jv.pG {n s B:Nat} {H:fP} {P:Option PAg} {a:AgA} {b:List (Nat×List E)} {ever:List E} {armed:Bool} (h:MachSt n [] s B H P a b ever armed) (d:48≤n∧n≤128) (j:∀ m∈b,In60 m.2) (mask cut:Int) (hc:cut≤9223372036854775807) :
  ∃ H' p v T,ie (H.again mask cut (-1))=(H',.inl p)∧(v,T)∈b∧p.a=begunA v T∧
   (H'.dp.dead=true→MachSt n [] s (B+480) H' (some p) a b ever false)∧
   (H'.dp.dead=false→jv n v s (B+480) H' {p with a := {p.a with out:=[]}} T false∧p.a.Fit∧p.a.deg=none∧MachSt n [] s (B+480) H' (some p) p.a [(v,T)] ever false∧H'.dp.S=T)∧(cut<0→NoCut H'.dp):=by
 have hd:decide ((0:Int)≤-1)=false:=by decide
 rcases h.pG mask cut (-1) hc (by omega) with ⟨H',f,-,-,-,u,-⟩ | ⟨H',p,v,T,h1,h2,h3,-,h5,h6⟩
 ·omega
 ·rw [hd] at h5 h6
  refine ⟨H',p,v,T,h1,h2,h3,h5,fun hdd => ?_,fun r => ?_⟩
  ·have hm:=h6 hdd
   rw [←h3] at hm
   obtain ⟨q,l,o⟩:=jJ v T
   have i:=hm.fit p rfl
   obtain ⟨g1,g2,g3,g5,g6⟩:=hm.inv.up p rfl hdd
   exact ⟨⟨⟨ever,hm.own (a1 := {p.a with out:=[]}) rfl rfl rfl rfl ⟨i.v,by simp,by simp,i.com⟩⟩,by show p.a.V=v;rw [h3,q],by show p.a.T=T;rw [h3,l],rfl,by show p.a.deg=none;rw [h3,o],j _ h2,d,hdd⟩,i,by rw [h3,o],hm,by rw [g3,h3,l]⟩
  ·have d:NoCut (H.again mask cut (-1)).dp:=⟨by show max cut (-1) = -1;omega,rfl⟩
   have:=d.start
   rw [h1] at this
   exact this
end Go.Proofs.YtkkfmkhbdoeglabGreatDoor
namespace Go.Proofs.YtkkfmkhbdoeglabGreatDoor
open Go.RowKit Go.Shelf
def fP.kX (H:fP) (k:Nat):fP := {H with fail:=if H.fail<0 then H.fail else H.fail-k}
theorem Dk (H:fP):H.kX 0=H:=by
 unfold fP.kX
 have:(if H.fail<0 then H.fail else H.fail-(0:Nat))=H.fail:=by split <;> omega
 rw [this]
theorem Dj {H:fP} {k:Nat} (hk:¬(0≤H.fail∧H.fail<(k:Int))):((H.kX k).gW=true↔H.fail=k)∧(H.fail≠k→(H.kX k).asked=H.kX (k+1))∧(H.fail=k→(H.kX k).asked = {H with fail := -1}):=by
 have key:∀ a b:Int,a=b→({H with fail:=a} : fP) = {H with fail:=b} := fun a b e=>by rw [e]
 refine ⟨?_,fun h=>key _ _ ?_,fun h=>key _ _ ?_⟩
 ·unfold fP.kX fP.gW
  simp only [dj]
  split <;> omega
 ·unfold fP.kX
  simp only
  split <;> (try split) <;> omega
 ·unfold fP.kX
  simp only
  split <;> (try split) <;> omega
def jT (g:LogS) (seen:List (List UInt8)) (k:Nat):Nat:=max g.stamp (gO (seen.take k))
theorem xI (l:List (List UInt8)) (b:List UInt8):gO (l++[b])=max (gO l) (parseSec b).stamp:=by
 unfold gO
 rw [di]
 rfl
theorem Bv {g:LogS} {seen:List (List UInt8)} {k:Nat} {b:List UInt8} (h:seen[k]?=some b):jT g seen (k+1)=max (jT g seen k) (parseSec b).stamp:=by
 unfold jT
 rw [mD _ _ h,xI,Nat.max_assoc]
def l7 (seen:List (List UInt8)) (k:Nat):List (List UInt8):=seen.take k++List.replicate (seen.length-k) []
theorem CA {seen:List (List UInt8)} {k:Nat} (h:k≤seen.length):(l7 seen k).length=seen.length:=by
 unfold l7
 rw [aq,az,bF]
 omega
theorem AA {seen:List (List UInt8)} {k:Nat} {b:List UInt8} (h:seen[k]?=some b):l7 seen (k+1)=(l7 seen k).set k b:=by
 have hk:=(aF.1 h).1
 unfold l7
 rw [mD _ _ h,List.set_append_right _ _ (by rw [az];omega),az,show k-min k seen.length=0 by omega,show seen.length-k=(seen.length-(k+1))+1 by omega,List.replicate_succ,ai]
 simp
def zV (w:World) (F:Nat→Prop) (lg h:Nat) (H:fP) (g:LogS) (b:Value) (k:Nat) (wr:World):Prop :=
 HostAt wr F h (H.kX k)∧RowsAt wr (fun j=>w.heap.size≤j∧j<wr.heap.size) b (l7 H.seen k)∧LogAt wr lg h {g with stamp:=jT g H.seen k}∧Ext (fun j=>F j∨j=lg) w wr∧¬(0≤H.fail∧H.fail<(k:Int))
def Iv (w:World) (lg h:Nat) (H:fP) (g:LogS) (e:Ending) (w':World):Option Nat→Prop
 | some f=>∃ v,e = .returned (.tuple #[.slice none 0 0,v])∧kL w w' v f
 | none=>∃ v,e = .returned (.tuple #[v,.nilIface])∧RowsAt w' (fun j=>w.heap.size≤j∧j<w'.heap.size) v H.seen∧LogAt w' lg h {g with stamp:=jT g H.seen H.seen.length}
theorem GD (w:World) (n:Nat) (m:n≤1000):RowsAt (w.alloc (.cells (madeCells #[.slice none 0 0] n) 112)) (fun j=>w.heap.size≤j∧j<w.heap.size+1) (.slice (some ⟨w.heap.size,0,none⟩) n n) (List.replicate n []):=by
 have o:(madeCells #[Value.slice none 0 0] n).size=n:=by simp [madeCells]
 have h:=OwnS.new w (madeCells #[.slice none 0 0] n) 112 0 0 0 1 n n (aM _) (af _) (by have:maxLen=9223372036854775807:=rfl;omega) (by omega) (.inl (by omega))
 have e:(madeCells #[Value.slice none 0 0] n).toList.take (n*1)=List.replicate n (.slice none 0 0):=by
  rw [ez,Nat.mul_one,aQ (by simp)]
 rw [e] at h
 refine ⟨List.replicate n (.slice none 0 0),by rw [bF];exact h,fun k hk => ?_,fun k hk => ?_,fun i b l => ?_⟩
 ·cases hk
  exact ⟨_,_,fR w _⟩
 ·cases hk
  exact ⟨af _,Nat.lt_succ_self _⟩
 ·obtain ⟨hl,d⟩:=aF.1 l
  rw [List.getElem_replicate] at d
  subst d
  rw [bF] at hl
  exact ⟨_,by rw [List.getElem?_replicate,aD hl],BytesAt.nil _ _ _,CellsOf.nil _ _,fun k e=>by simp [Value.ownBlock] at e⟩
theorem wJ (lg h:Nat) (F:Nat→Prop) (H:fP) (g:LogS) (B:Nat) (w:World) (hl:LogAt w lg h g) (hh:HostAt w F h H) (a1:HostOk H B) (bs:¬F lg) :
  Calls Tryz.prog 197 #[.pointer (some ⟨lg,0,none⟩)] w fun e w'=>HostAt w' F h (readAll H).1∧Ext (fun j=>F j∨j=lg) w w'∧Iv w lg h H g e w' (readAll H).2:=by
 have hn:=a1.n
 have a2:=ab (oy h F H w hh)
 have d3:=nu h
 have d4:=lz h
 have d5:=EO h
 have d6:=zr h
 have aa:=hl
 unfold LogAt at aa
 have c0:w.cell? ⟨lg,0,none⟩=some (.iface 217 (.agg #[.pointer (some ⟨h,0,none⟩)])):=ae _ _ 0 _ _ _ aa
 have Q:=fO aa
 have HH:=ab hh
 have HL:=ab hl
 have bt:=ab hh.lt
 have bv:=ab a1
 obtain ⟨N,hN⟩:∃ N,N=H.seen.length:=⟨_,rfl⟩
 have r:=ab hN
 have d7:N≤128:=by omega
 have d8:∀ w,(Instr.makeSlice 120 (.int .i64 N) (.int .i64 N)).run Tryz.prog w = .ok (.slice (some ⟨w.heap.size,0,none⟩) N N) (w.alloc (.cells (madeCells #[.slice none 0 0] N) 112)):=fun w =>
  run_make_row' 120 112 (.slice none 0 0) 24 Tryz.underlying120 (by kernel_rfl) rfl .i64 .i64 N (by omega) (by omega) w
 rw [←hN] at a2
 clear hl aa hh a1 hN
 go_enter Tryz.func197,Tryz.ntmps197
 go_wp2_with fail
 refine a2.out.mono ?_
 rintro e w1 ⟨rfl,a3⟩
 have bw:=ab a3
 have ag:=ab (GD w1 N (by omega))
 have a4:=a3.size
 clear a3
 go_wp2
 obtain ⟨w2,ak⟩:∃ w2,w2=w1.alloc (.cells (madeCells #[.slice none 0 0] N) 112):=⟨_,rfl⟩
 rw [←ak] at ag⊢
 have a5:Hid (Below w.heap.size w w2):=ab (by rw [ak];exact bw.out.alloc a4 _)
 have ci:w2.heap.size=w1.heap.size+1:=by rw [ak];simp
 obtain ⟨o,bx⟩:∃ o,o=w1.heap.size:=⟨_,rfl⟩
 rw [←bx] at ag⊢a4 ci
 have cl:Hid (zV w F lg h H g (.slice (some ⟨o,0,none⟩) N N) 0 w2):=ab (by
  refine ⟨by rw [Dk];exact HH.out.below a5.out,?_,?_,(Ext.fT a5.out),by omega⟩
  ·have h0:l7 H.seen 0=List.replicate N []:=by unfold l7;rw [r.out];simp
   rw [h0]
   exact ag.out.mono fun j d=>by omega
  ·have h0:jT g H.seen 0=g.stamp:=by unfold jT gO;simp
   rw [h0]
   exact fQ a5.out (fO HL.out) HL.out)
 clear ak bx c0 a2 bw ag
 go_loopw [17] (fun i wr=>∃ k:Nat,k≤N∧i = .int .i64 (k:Int)∧zV w F lg h H g (.slice (some ⟨o,0,none⟩) N N) k wr) (fun i _=>N-(intOf i).toNat)
 case atStart=>exact ⟨0,aM _,rfl,cl.out⟩
 case round =>
  obtain ⟨k,hk,rfl,hrel⟩:=hrel
  obtain ⟨r1,r2,r3,r4,r5⟩:=hrel
  have a6:=ab r1
  have bz:=ab r2
  have bD:=ab r3
  have R:=ab r4
  have al:=ab r5
  have am:=r3
  unfold LogAt at am
  have c0:wr.cell? ⟨lg,0,none⟩=some (.iface 217 (.agg #[.pointer (some ⟨h,0,none⟩)])):=ae _ _ 0 _ _ _ am
  have dn:=fO am
  clear r1 r2 r3 am r4 r5
  by_cases Q:k<N
  ·have g1:(k:Int)<N:=by omega
   obtain ⟨q1,q2,q3⟩:=Dj al.out
   obtain ⟨b,hb⟩:∃ b,H.seen[k]?=some b:=⟨_,ay (by rw [←r.out];exact Q)⟩
   have a7:=ab hb
   have a9:b.length=64:=bv.out.s64 b (aV hb)
   have bH:=ab q1
   have ct:=ab q2
   have cu:=ab q3
   have cv:N≤1000:=by omega
   have ba:Hid (k<(H.kX k).seen.length∧(H.kX k).seen.length≤1000):=ab (by show k<H.seen.length∧H.seen.length≤1000;rw [←r.out];exact ⟨Q,cv⟩)
   clear hb q1 q2 q3
   cases U:(H.kX k).gW with
   | true =>
    have q:H.fail=k:=bH.out.1 U
    have bb:Hid (readAll H=((H.kX k).asked,some (k+2))):=ab (by
     rw [cu.out q]
     unfold readAll
     rw [aD (by rw [q,←r.out];omega),q]
     rfl)
    clear q
    go_wp2_with fail
    refine (GA h F (H.kX k) k wr a6.out ba.out.1 ba.out.2 U).mono ?_
    rintro e w5 ⟨v,rfl,bI,V,W⟩
    have cB:=ab bI
    have c1:=ab V
    have c2:=ab W
    obtain ⟨er,rfl,-,-⟩:=bI
    clear V W
    go_wp2
    go_ret2
    rw [bb.out]
    exact ⟨c1.out,R.out.trans (c2.out.mono fun j d => .inl d),_,rfl,cB.out.mono R.out.size⟩
   | false =>
    have q:H.fail≠k:=fun e=>by rw [bH.out.2 e] at U;cases U
    have bL:=ab q
    have bM : -1≤(H.kX k).fail∧(H.kX k).fail≤9223372036854775807:=by
     have:=bv.out.fail
     have h5:=al.out
     unfold fP.kX
     simp only
     split <;> omega
    clear q
    go_wp2_with fail
    refine (EY h F (H.kX k) k b wr a6.out a7.out ba.out.2 (by omega) U bM).mono ?_
    rintro e w5 ⟨v,rfl,bN,bO,bP,V,W⟩
    have bc:=ab bN
    have ap:=ab bO
    have bS:=ab bP
    have be:=ab V
    have av:=ab W
    obtain ⟨G,I,rfl,-,-⟩:=bN.opened
    clear bO bP V W bM c0
    have bX:Hid (LogAt w5 lg h {g with stamp:=jT g H.seen k}):=ab (bD.out.ext av.out bs)
    have X:=bX.out
    unfold LogAt at X
    have d1:w5.cell? ⟨lg,1,none⟩=some (.int .u64 (jT g H.seen k:Nat)):=ae _ _ 1 _ _ _ X
    have f1:=aj _ _ 1 _ _ X
    have bi:=fO X
    clear X
    go_wp2
    have x:Hid (Below w5.heap.size w5 (w5.alloc (.cells #[.slice G b.length I,.int .i64 0,.int .i64 0,.pointer none] 254))):=ab ((Below.refl _ w5).alloc (af _) _)
    have J:=fR w5 (.cells #[.slice G b.length I,.int .i64 0,.int .i64 0,.pointer none] 254)
    have aE:Hid (CurAt (w5.alloc (.cells #[.slice G b.length I,.int .i64 0,.int .i64 0,.pointer none] 254)) w5.heap.size w5.heap.size ⟨b,0,0,none⟩):=ab ⟨aM _,af _,by unfold gF;simp only;omega,af _,_,none,J,bc.out.below x.out,fun j e=>by
     obtain ⟨C,fz,hC⟩:=ap.out j e
     exact fO hC,rfl⟩
    rw [a9] at J x aE
    obtain ⟨M,bk⟩:∃ M,M=w5.alloc (.cells #[.slice G 64 I,.int .i64 0,.int .i64 0,.pointer none] 254):=⟨_,rfl⟩
    rw [←bk] at x aE J⊢
    have d9:M.heap.size=w5.heap.size+1:=by rw [bk];simp
    have b8:w.heap.size≤o:=a4
    have Z:M.cell? ⟨lg,1,none⟩=some (.int .u64 (jT g H.seen k:Nat)):=(x.out.cell (p:=⟨lg,1,none⟩) bi).trans d1
    have e2:M.frozen? ⟨lg,1,none⟩=false:=(x.out.frozen (p:=⟨lg,1,none⟩) bi).trans f1
    clear bk d1 f1 J
    have c3:Hid (iP ((⟨b,0,0,none⟩:Cu).take 8).2=(parseSec b).stamp):=ab (by
     rw [Cu.ir,au (by omega)]
     rfl)
    refine iB (n:=10) (S:=(fun w'=>w'.cell? ⟨lg,1,none⟩=some (.int .u64 (jT g H.seen k:Nat)))) (by kernel_rfl) (by kernel_rfl) rfl (by first | exact Z | exact Y) ?_
    intro dp
    simp only [cI,cc,cy,cJ,bA,cd,bf,bu,bT,aO,aX]
    refine wpAnyH_take (i:=0) (v := ?_) rfl (by kernel_rfl) (by kernel_rfl) (by kernel_rfl) (fun _ _ _ h=>h) (Or.inl ⟨by rfl,?_⟩) (by assumption) ?_
    rotate_left 1
    ·(intro w l;(try dsimp only at l);go_simp;(try with_reducible rfl))
    try simp only [Act.put,ah,ai]
    refine wpAnyH_take (i:=1) (v := ?_) rfl (by kernel_rfl) (by kernel_rfl) (by kernel_rfl) (fun _ _ _ h=>h) (Or.inl ⟨by rfl,?_⟩) (by assumption) ?_
    rotate_left 1
    ·(intro w l;(try dsimp only at l);go_simp;(try with_reducible rfl))
    try simp only [Act.put,ah,ai,ao]
    refine wpAnyH_take (i:=2) (v := ?_) rfl (by kernel_rfl) (by kernel_rfl) (by kernel_rfl) (fun _ _ _ h=>h) (Or.inl ⟨by rfl,?_⟩) (by assumption) ?_
    rotate_left 1
    ·(intro w l;(try dsimp only at l);go_simp;(try with_reducible rfl))
    try simp only [Act.put,ah,ai,ao]
    refine wpAnyH_take (i:=3) (v := ?_) rfl (by kernel_rfl) (by kernel_rfl) (by kernel_rfl) (fun _ _ _ h=>h) (Or.inl ⟨by rfl,?_⟩) (by assumption) ?_
    rotate_left 1
    ·(intro w l;(try dsimp only at l);go_simp;(try with_reducible rfl))
    try simp only [Act.put,ah,ai,ao]
    refine wpAnyH_take (i:=4) (v := ?_) rfl (by kernel_rfl) (by kernel_rfl) (by kernel_rfl) (fun _ _ _ h=>h) (Or.inl ⟨by rfl,?_⟩) (by assumption) ?_
    rotate_left 1
    ·(intro w l;(try dsimp only at l);go_simp;(try with_reducible rfl))
    try simp only [Act.put,ah,ai,ao]
    refine wpAnyH_take (i:=5) (v := ?_) rfl (by kernel_rfl) (by kernel_rfl) (by kernel_rfl) (fun _ _ _ h=>h) (Or.inl ⟨by rfl,?_⟩) (by assumption) ?_
    rotate_left 1
    ·(intro w l;(try dsimp only at l);go_simp;(try with_reducible rfl))
    try simp only [Act.put,ah,ai,ao]
    refine wpAnyH_ready (rs:=[6]) (by kernel_rfl) (by simp) ?_
    refine AllReadyH.cons rfl ?_ AllReadyH.nil
    intro K' hK'
    go_simp;go_at_call 156;refine (mJ w5.heap.size w5.heap.size ⟨b,0,0,none⟩ _ (by first | exact aE.out | exact aE.out.gr ((Below.refl _ M).drew)) (by show w5.heap.size≤M.heap.size;omega)).mono ?_;rintro e m ⟨rfl,cb,y⟩;have bl:Hid (Ext (fun j=>j=w5.heap.size) M m):=ab ⟨y.os,y.tape,y.output,y.size,fun j d c4=>y.block j d fun e=>c4 (by cases e;rfl)⟩;have Y:m.cell? ⟨lg,1,none⟩=some (.int .u64 (jT g H.seen k:Nat)):=bl.out.cell (p:=⟨lg,1,none⟩) (by show lg≠w5.heap.size;omega) Z;clear cb y;rw [c3.out];refine hK'.out _ _ Y ?_
    clear hK' K'
    intro ds
    try simp only [ah,ai,ao]
    refine wpAnyH_ready (rs:=[7]) (by kernel_rfl) (by simp) ?_
    refine AllReadyH.cons rfl ?_ AllReadyH.nil
    intro K' hK'
    go_simp
    refine hK'.out _ _ (by first | exact Z | exact Y) ?_
    clear hK' K'
    intro dv
    try simp only [ah,ai,ao]
    refine wpAnyH_take (i:=8) (v := ?_) rfl (by kernel_rfl) (by kernel_rfl) (by kernel_rfl) (fun _ _ _ h=>h) (Or.inl ⟨by rfl,?_⟩) (by assumption) ?_
    rotate_left 1
    ·(intro w l;(try dsimp only at l);go_simp;(try with_reducible rfl))
    try simp only [Act.put,ah,ai,ao]
    refine wpAnyH_take (i:=9) (v := ?_) rfl (by kernel_rfl) (by kernel_rfl) (by kernel_rfl) (fun _ _ _ h=>h) (Or.inl ⟨by rfl,?_⟩) (by assumption) ?_
    rotate_left 1
    ·(intro w l;(try dsimp only at l);go_simp;(try with_reducible rfl))
    try simp only [Act.put,ah,ai,ao]
    refine wpAnyH_done (by kernel_rfl) ?_ _
    show Oper.wp _ _ _ _ _ _
    have e7:m.cell? ⟨lg,1,none⟩=some (.int .u64 (jT g H.seen k:Nat)):=Y
    have e8:m.frozen? ⟨lg,1,none⟩=false:=by
     rw [←e2]
     exact cT (w:=M) (a:=⟨lg,1,none⟩) (bl.out.block lg (by omega) (by show lg≠w5.heap.size;omega))
    have D:Hid (Ext (fun j=>j=w5.heap.size) w5 m):=ab ((Ext.fT x.out).trans bl.out)
    clear Z e2 Y
    have ea:=R.out.size
    have c5:=av.out.size
    have c6:=D.out.size
    have dT:=fO HL.out
    have b0:Hid (RowsAt m (fun j=>w.heap.size≤j∧j<wr.heap.size) (.slice (some ⟨o,0,none⟩) N N) (l7 H.seen k)):=ab (bz.out.gr (aH c5 c6) fun j C t fz d _ hF=>(D.out.block j (by omega) (by show j≠w5.heap.size;omega)).trans (av.out.block j (by omega) fun e=>by have:=bt.out j e;omega))
    have a0:Hid ((l7 H.seen k).length=N):=ab (by rw [CA (by rw [←r.out];omega),r.out])
    obtain ⟨gs,os,cap,u0,b1,s0,sf,-,-⟩:=b0.out.store (n:=k) (by rw [a0.out];exact Q)
    obtain ⟨Z,e2,e3⟩:=Value.slice.inj b1
    obtain ⟨rfl,rfl⟩:o=gs∧0=os:=by cases Z;exact ⟨rfl,rfl⟩
    rw [bG] at s0 sf
    have eb:=fU s0
    have ec:o≠lg:=by omega
    have ce:Hid (jn m (fun j=>w.heap.size≤j∧j<m.heap.size) (.slice G 64 I) b):=ab (by
     have h1:jn w5 (fun j=>w.heap.size≤j∧j<m.heap.size) (.slice G b.length I) b:=⟨bc.out,ap.out,fun j e=>by
      have h2:=bS.out j e
      obtain ⟨C,fz,hC⟩:=ap.out j e
      have:=fO hC
      omega⟩
     rw [a9] at h1
     exact h1.gr fun j C fz d _=>D.out.block j (fO d) (by show j≠w5.heap.size;have:=fO d;omega))
    clear Z e2 e3 b1 ap bc bS
    go_wp2
    obtain ⟨w8,E⟩:∃ w8,w8=m.setCell ⟨lg,1,none⟩ (.int .u64 (max (jT g H.seen k:Int) ((parseSec b).stamp:Int))):=⟨_,rfl⟩
    have c8:Hid (LogAt w8 lg h {g with stamp:=jT g H.seen (k+1)}):=ab (by
     rw [E,Bv a7.out]
     have h1:=heap_setCell m lg 1 (.int .u64 (max (jT g H.seen k:Int) ((parseSec b).stamp:Int))) (D.out.at (by show lg≠w5.heap.size;omega) bX.out)
     rw [show (max (jT g H.seen k:Int) ((parseSec b).stamp:Int))=((max (jT g H.seen k) (parseSec b).stamp:Nat):Int) by omega] at h1⊢
     exact h1)
    have O:∀ j,j≠lg→w8.heap[j]?=m.heap[j]?:=fun j d=>by rw [E];exact Below.heap_setCell m ⟨lg,1,none⟩ _ j d
    have ed:w8.heap.size=m.heap.size:=by rw [E,size_setCell]
    have c9:Hid (Ext (fun j=>F j∨j=lg) w w8):=ab (by
     rw [E]
     exact ((R.out.trans (av.out.mono fun j d => .inl d)).trans' D.out fun j d => .inr (by have eg:j=w5.heap.size:=d;omega)).setCell _ _ (.inl (.inr rfl)))
    have da:Hid (RowsAt w8 (fun j=>w.heap.size≤j∧j<m.heap.size) (.slice (some ⟨o,0,none⟩) N N) (l7 H.seen k)):=ab ((b0.out.gr (by omega) fun j C t fz d _ hF=>O j (by omega)).mono fun j d=>by omega)
    have dc:Hid (jn w8 (fun j=>w.heap.size≤j∧j<m.heap.size) (.slice G 64 I) b):=ab (ce.out.gr fun j C fz d hF=>O j (by omega))
    have dk:Hid (HostAt w8 F h (H.kX k).asked):=ab (be.out.frame (by omega) fun j d=>(O j (fun e=>bs (e▸d))).trans (D.out.block j (be.out.lt j d) (by show j≠w5.heap.size;have:=be.out.lt j d;omega)))
    rw [←E]
    clear E
    have bn:=RowsAt.set (w:=w8) (w':=w8.setCell ⟨o,0+k,none⟩ (.slice G 64 I)) (gs:=o) (os:=0) (cap:=N) (n:=k) (rows:=l7 H.seen k) (F:=fun j=>w.heap.size≤j∧j<m.heap.size) (u := .slice G 64 I) (s:=b) (by rw [a0.out];exact da.out) (by rw [a0.out];exact Q) (fun _ _ _=>dc.out) rfl
    rw [a0.out,bG,←AA a7.out] at bn
    refine ⟨⟨k+1,by omega,by go_num,?_,bn.mono fun j d=>by rw [size_setCell];omega,?_,c9.out.setCell _ _ (.inr b8),?_⟩,by simp [intOf];omega⟩
    ·rw [←ct.out bL.out]
     exact dk.out.frame (by rw [size_setCell];exact af _) fun j d=>Below.heap_setCell w8 ⟨o,k,none⟩ _ j (by show j≠o;have:=bt.out j d;omega)
    ·exact (Below.heap_setCell w8 ⟨o,k,none⟩ _ lg (by show lg≠o;omega)).trans c8.out
    ·intro hc
     exact al.out ⟨hc.1,by have:=bL.out;omega⟩
  ·obtain rfl:k=N:=by omega
   have bb:Hid (readAll H=(H.kX k,none)):=ab (by
    unfold readAll fP.kX
    rw [au (by rw [←r.out];exact al.out),←r.out])
   go_wp2
   go_ret2
   rw [bb.out]
   have h1:l7 H.seen k=H.seen:=by unfold l7;rw [r.out,bC,ef];simp
   exact ⟨a6.out,R.out,⟨_,rfl,by rw [←h1];exact bz.out,by rw [←r.out];exact bD.out⟩⟩
end Go.Proofs.YtkkfmkhbdoeglabGreatDoor
namespace Go.Proofs.YtkkfmkhbdoeglabGreatDoor
open Go.RowKit Go.Shelf
structure nK (w:World) (c gb go cap at' tt:Nat) (l:List UInt8):Prop where
 row:w.heap[c]?=some (.cells #[.slice (some ⟨gb,go,none⟩) l.length cap,.int .i64 (at':Nat),.int .i64 (tt:Nat),.pointer none] 254 (0,0))
 bytes:BytesAt w (.slice (some ⟨gb,go,none⟩) l.length cap) l
 ne:gb≠c
 cap:l.length≤cap
 len:l.length≤1000
theorem nK.drew {w:World} {c gb go cap at' tt:Nat} {l:List UInt8} (h:nK w c gb go cap at' tt l):nK w.drew c gb go cap at' tt l:=⟨h.row,h.bytes,h.ne,h.cap,h.len⟩
theorem sz {w w':World} {c:Nat} (h:w.grownBy w' (some c)):Ext (fun j=>j=c) w w':=⟨h.os,h.tape,h.output,h.size,fun k hk hs=>h.block k hk fun e=>hs (by cases e;rfl)⟩
theorem zH (c gb go cap at' tt n:Nat) (l:List UInt8) (w:World) (h:nK w c gb go cap at' tt l) (E:n≤100) (B:1≤n) (hs:tt+n≤l.length) :
  Calls Tryz.prog 157 #[.pointer (some ⟨c,0,none⟩),.int .i64 n] w fun e w'=>e = .returned (.slice (some ⟨gb,go+tt,none⟩) n n)∧nK w' c gb go cap tt (tt+n) l∧Ext (fun j=>j=c) w w':=by
 obtain ⟨h5,h6,h7,i,h3⟩:=h
 have c0:w.cell? ⟨c,0,none⟩=some (.slice (some ⟨gb,go,none⟩) l.length cap):=ae w c 0 _ _ _ h5
 have c1:w.cell? ⟨c,1,none⟩=some (.int .i64 at'):=ae w c 1 _ _ _ h5
 have c2:w.cell? ⟨c,2,none⟩=some (.int .i64 tt):=ae w c 2 _ _ _ h5
 have c3:w.cell? ⟨c,3,none⟩=some (.pointer none):=ae w c 3 _ _ _ h5
 have f1:=aj w c 1 _ _ h5
 have f2:=aj w c 2 _ _ h5
 have f3:=aj w c 3 _ _ h5
 have C:=fO h5
 have s:=ab h5
 have u:=ab h6
 clear h5 h6
 have F:(tt:Int)≤tt+n:=by omega
 have G:(tt:Int)+n≤cap:=by omega
 have I:tt+n≤cap:=by omega
 have J:¬(tt:Int)+n<0:=by omega
 have D:¬(l.length:Int)-tt<n:=by omega
 go_enter Tryz.func157,Tryz.ntmps157
 go_wp2
 go_quiet (fail)
 go_wp2
 go_region
 all_goals (go_wp2;go_quiet (fail);go_wp2)
 go_ret
 have o:=heap_setCell w c 1 (.int .i64 tt) s.out
 have q:=heap_setCell (w.setCell ⟨c,1,none⟩ (.int .i64 tt)) c 2 (.int .i64 (tt+n:Nat)) o
 have d:∀ k m,w.grownBy ((((w.drewN k).setCell ⟨c,1,none⟩ (.int .i64 tt)).setCell ⟨c,2,none⟩ (.int .i64 (tt+n:Nat))).drewN m) (some c):=fun k m =>
  oJ (gG (grownBy_set ((Below.refl _ w).drewN k) 1 _) 2 _) m
 have r:∀ k m,BytesAt ((((w.drewN k).setCell ⟨c,1,none⟩ (.int .i64 tt)).setCell ⟨c,2,none⟩ (.int .i64 (tt+n:Nat))).drewN m) (.slice (some ⟨gb,go,none⟩) l.length cap) l:=fun k m =>
  fW.grown u.out (d k m) (fun b x e=>h7 (by cases x;cases e;rfl))
 have y:tt+n-tt=n:=by omega
 refine ⟨?_,⟨q,r _ _,h7,i,h3⟩,sz (d _ _)⟩
 show Ending.returned (Value.slice (some ⟨gb,go+tt,none⟩) (tt+n-tt) (tt+n-tt))=_
 rw [y]
theorem GS (c gb go cap at' tt:Nat) (l:List UInt8) (w:World) (h:nK w c gb go cap at' tt l) (hs:tt≤l.length) :
  Calls Tryz.prog 157 #[.pointer (some ⟨c,0,none⟩),.int .i64 0] w fun e w'=>(∃ v,e = .returned v∧BytesAt w' v [])∧nK w' c gb go cap tt tt l∧Ext (fun j=>j=c) w w':=by
 obtain ⟨h5,h6,h7,i,h3⟩:=h
 have c0:w.cell? ⟨c,0,none⟩=some (.slice (some ⟨gb,go,none⟩) l.length cap):=ae w c 0 _ _ _ h5
 have c1:w.cell? ⟨c,1,none⟩=some (.int .i64 at'):=ae w c 1 _ _ _ h5
 have c2:w.cell? ⟨c,2,none⟩=some (.int .i64 tt):=ae w c 2 _ _ _ h5
 have c3:w.cell? ⟨c,3,none⟩=some (.pointer none):=ae w c 3 _ _ _ h5
 have f1:=aj w c 1 _ _ h5
 have f2:=aj w c 2 _ _ h5
 have f3:=aj w c 3 _ _ h5
 have y:=fO h5
 have s:=ab h5
 have u:=ab h6
 clear h5 h6
 have D:(tt:Int)≤cap:=by omega
 have E:tt≤cap:=by omega
 have B:¬(l.length:Int)-tt<0:=by omega
 have C:¬(l.length:Int)<tt:=by omega
 go_enter Tryz.func157,Tryz.ntmps157
 go_wp2
 go_quiet (fail)
 go_wp2
 go_region
 all_goals (go_wp2;go_quiet (fail);go_wp2)
 go_ret
 have o:=heap_setCell w c 1 (.int .i64 tt) s.out
 have q:=heap_setCell (w.setCell ⟨c,1,none⟩ (.int .i64 tt)) c 2 (.int .i64 tt) o
 have d:∀ k m,w.grownBy ((((w.drewN k).setCell ⟨c,1,none⟩ (.int .i64 tt)).setCell ⟨c,2,none⟩ (.int .i64 tt)).drewN m) (some c):=fun k m =>
  oJ (gG (grownBy_set ((Below.refl _ w).drewN k) 1 _) 2 _) m
 have r:∀ k m,BytesAt ((((w.drewN k).setCell ⟨c,1,none⟩ (.int .i64 tt)).setCell ⟨c,2,none⟩ (.int .i64 tt)).drewN m) (.slice (some ⟨gb,go,none⟩) l.length cap) l:=fun k m =>
  fW.grown u.out (d k m) (fun b x e=>h7 (by cases x;cases e;rfl))
 exact ⟨⟨_,rfl,BytesAt.nil _ _ _⟩,⟨q,r _ _,h7,i,h3⟩,sz (d _ _)⟩
theorem nK.part {w:World} {c gb go cap at' tt n:Nat} {l:List UInt8} (h:nK w c gb go cap at' tt l) (k:Nat) (hs:k+n≤l.length):BytesAt w (.slice (some ⟨gb,go+k,none⟩) n n) ((l.drop k).take n):=by
 have h1:=(h.bytes.sub k (k+n) (by omega) hs).cap' (cap':=n) (by omega)
 rw [show k+n-k=n by omega,List.drop_take,show k+n-k=n by omega] at h1
 exact h1
theorem BB (c gb go cap at' tt n:Nat) (l:List UInt8) (w:World) (h:nK w c gb go cap at' tt l) (d:n≤100) (hs:tt+n≤l.length) :
  Calls Tryz.prog 157 #[.pointer (some ⟨c,0,none⟩),.int .i64 (n:Nat)] w fun e w'=>(∃ v,e = .returned v∧BytesAt w' v ((l.drop tt).take n))∧nK w' c gb go cap tt (tt+n) l∧Ext (fun j=>j=c) w w':=by
 by_cases b:1≤n
 ·refine (zH c gb go cap at' tt n l w h d b hs).mono ?_
  rintro e w' ⟨rfl,h2,h3⟩
  exact ⟨⟨_,rfl,h2.part tt hs⟩,h2,h3⟩
 ·obtain rfl:n=0:=by omega
  exact GS c gb go cap at' tt l w h hs
theorem ER (c gb go cap at' tt:Nat) (s:List UInt8) (w:World) (h:nK w c gb go cap at' tt s) (hs:tt+8≤s.length) :
  Calls Tryz.prog 156 #[.pointer (some ⟨c,0,none⟩)] w fun e w'=>e = .returned (.int .u64 (iP ((s.drop tt).take 8)))∧nK w' c gb go cap tt (tt+8) s∧Ext (fun j=>j=c) w w':=by
 obtain ⟨l,hl⟩:∃ l,l=(s.drop tt).take 8:=⟨_,rfl⟩
 have hlen:l.length=8:=by rw [hl,az,bg];omega
 have x:=ab hl
 rw [←hl]
 clear hl
 go_enter Tryz.func156,Tryz.ntmps156
 go_wp2_with (go_at_call 157;refine (zH c gb go cap at' tt 8 s _ h (by decide) (by decide) hs).mono ?_;rintro e w1 ⟨rfl,m,q⟩;have d:=m.part tt hs;rw [←x.out] at d;obtain ⟨a,cap',he,y,r⟩:=d.opened;have B:=ab r;clear r d)
 rw [hlen] at he
 cases he
 go_loop [3,9] (fun c i=>∃ k:Nat,k≤8∧i = .int .i64 k∧c = .int .u64 (iP (l.take k))) (fun _ i=>8-(intOf i).toNat)
 case atStart=>exact ⟨0,by omega,rfl,by simp [iP]⟩
 case round =>
  obtain ⟨k,hk,rfl,rfl⟩:=hrel
  by_cases h8:k<8
  ·have o:=qP k l (by omega)
   have hle:iP (l.take k)<256^7:=aC o (eX (by decide) (by omega))
   have H:=ab (qQ l k (by omega))
   obtain ⟨b,off,C,u⟩:=B.out k (by omega)
   cases C
   have E:=(l[k]'(by omega)).toNat_lt
   generalize iP (l.take k)=v at *
   clear o
   have d:v<72057594037927936:=hle
   clear hle
   go_wp2
   go_round
   case rel =>
    refine ⟨k+1,by omega,by go_num,?_⟩
    have D:v*256 ||| (l[k]'(by omega)).toNat=v*256+(l[k]'(by omega)).toNat:=nat_join 8 _ _ (by omega) (by omega)
    rw [show ((v:Int)*256)=((v*256:Nat):Int) by omega,u64_or_nat _ _ (by omega) (by omega),D,H.out]
   case measure=>simp [intOf];omega
  ·obtain rfl:k=8:=by omega
   rw [aQ (by omega)]
   go_wp2
   go_ret
   exact ⟨rfl,m,q⟩
end Go.Proofs.YtkkfmkhbdoeglabGreatDoor
