/- A part of what is proved here: lemmas and contracts of single functions. No condition but those that each names. -/
import Derived.Test.YtkkfmkhbdoeglaaGreatDoorG00
import Derived.Deep.CutBlock
import Derived.Test.YtkkfmkhbdoeglaaGreatDoorG10
import Derived.Test.YtkkfmkhbdoeglaaGreatDoorG13
import Derived.Test.YtkkfmkhbdoeglaaGreatDoorG20
import Derived.Test.YtkkfmkhbdoeglaaGreatDoorG21
import Derived.Test.YtkkfmkhbdoeglaaGreatDoorG38
import Derived.Test.YtkkfmkhbdoeglaaGreatDoorG39
namespace Go.Proofs.YtkkfmkhbdoeglaaGreatDoor
structure pN (n s B:Nat) (H:fJ) (p:PAg) (T:List E) (c:Option (Nat×Nat×List (List UInt8))):Prop where
 st:∃ ever,MachSt n [] s B H (some p) p.a [(1,T)] ever false
 v:p.a.V=1
 t:p.a.T=T
 deg:p.a.deg=none
 com:p.a.com=c
 t60:In60 T
 n48:48≤n∧n≤128
 dead:H.dp.dead=false
theorem sC (a:AgA) (k:UInt8) (b:List UInt8):(a.put k b).com=a.com:=by
 unfold AgA.put
 split <;> rfl
theorem sp {S:List E} (h:∀ x∈S,EntGood x):S.length=countS 0 S+countS 1 S+countS 2 S:=by
 induction S with
 | nil=>rfl
 | cons x S ih =>
  have h1:=ih fun y b=>h y (by simp [b])
  obtain ⟨g0,g2,-,-⟩:=h x (by simp)
  unfold countS at h1⊢
  rw [dg,dg,dg,au,h1]
  have h4:x.1.1=0∨x.1.1=1∨x.1.1=2:=by omega
  rcases h4 with h4 | h4 | h4 <;> simp [h4] <;> omega
theorem In60.len {S:List E} (h:In60 S):S.length≤60:=by
 have c0:=h.count 0
 have c1:=h.count 1
 have c2:=h.count 2
 rw [kZ.1] at c0
 rw [kZ.2.1] at c1
 rw [kZ.2.2] at c2
 have:=sp h.good
 omega
theorem In60.gH {T:List E} (h:In60 T) (v:Nat):(gH v T).length≤530:=by
 have c0:=h.count 0
 have c1:=h.count 1
 have c2:=h.count 2
 rw [kZ.1] at c0
 rw [kZ.2.1] at c1
 rw [kZ.2.2] at c2
 have hs:=rL h.good
 rw [lH]
 omega
theorem pN.rP {n s B:Nat} {H:fJ} {p:PAg} {T:List E} {c:Option (Nat×Nat×List (List UInt8))} (h:pN n s B H p T c) {frame:List UInt8} {a1:AgA} (d:p.a.taken frame=(a1,none)):iy H p frame=(H,{p with a:=a1})∧pN n s B H {p with a:=a1} T a1.com:=by
 obtain ⟨ever,b⟩:=h.st
 obtain ⟨h1,h2,h3⟩:=pw d
 have i:=(b.fit p rfl).taken frame
 rw [d] at i
 refine ⟨?_,⟨ever,b.own h1 h2 h3 rfl i⟩,h1.trans h.v,h2.trans h.t,h3.trans h.deg,rfl,h.t60,h.n48,h.dead⟩
 unfold iy
 rw [d]
theorem pN.ready {n s B:Nat} {H:fJ} {p:PAg} {T:List E} {c:Option (Nat×Nat×List (List UInt8))} (h:pN n s B H p T c) (d:B≤800000000) (hs:s<8999999999999999999):uT n [] B H p:=by
 obtain ⟨ever,b⟩:=h.st
 obtain ⟨-,g2,-,g5,-⟩:=b.inv.up p rfl h.dead
 exact ⟨b.fine,d,b.fit p rfl,fun e=>(g5 e).1,by omega⟩
def oW (k:Nat):List UInt8:=sealB 3 (j4 9++[UInt8.ofNat k])
theorem pN.mM {n s B k:Nat} {H:fJ} {p:PAg} {T:List E} {c:Option (Nat×Nat×List (List UInt8))} (h:pN n s B H p T c) (h1:1≤k) (h2:k≤16):∃ b,iy H p (oW k)=(H,b)∧pN n s B H b T (some (9,k,[])):=by
 have hk:(UInt8.ofNat k).toNat=k:=by rw [dz];omega
 have d:j4 9=[0,0,0,0,0,0,0,9]:=by decide
 have i:iL [0,0,0,0,0,0,0,9]=9:=by decide
 have j:p.a.taken (oW k)=(AgA.jM {p.a with com:=some (9,k,[])},none):=by
  unfold AgA.taken oW
  rw [h.deg,ni,d]
  show (p.a.mM ([0,0,0,0,0,0,0,9]++[UInt8.ofNat k]),none)=_
  unfold AgA.mM
  rw [aw (by simp),aw (by simp)]
  rw [show List.take 8 ([0,0,0,0,0,0,0,9]++[UInt8.ofNat k])=[0,0,0,0,0,0,0,9] from rfl,i,show List.getD ([0,0,0,0,0,0,0,9]++[UInt8.ofNat k]) 8 0=UInt8.ofNat k from rfl,hk,aw (by decide),aw (by omega),aw (by rw [h.v];omega)]
 have:=h.rP j
 rw [show (AgA.jM {p.a with com:=some (9,k,[])}).com=some (9,k,[]) from sC _ _ _] at this
 exact ⟨_,this⟩
def nG (all:List UInt8) (m i:Nat):List UInt8:=(all.drop (i*m)).take m
def jF (all:List UInt8) (m i:Nat):List UInt8:=sealB 4 (UInt8.ofNat i::nG all m i)
def jS (all:List UInt8) (m i:Nat):List (List UInt8):=(List.range i).map (nG all m)
theorem pg (all:List UInt8) (m i:Nat):jS all m (i+1)=jS all m i++[nG all m i]:=by
 unfold jS
 rw [List.range_succ,bC]
 rfl
theorem nH (all:List UInt8) (m i:Nat):(jS all m i).length=i:=by
 unfold jS
 rw [aH,List.length_range]
theorem sz (all:List UInt8) (m:Nat):∀ i,(jS all m i).flatten=all.take (i*m)
 | 0=>by simp [jS]
 | i+1=>by
  rw [pg,List.flatten_append,sz all m i,Nat.succ_mul,List.take_add]
  simp [nG]
theorem vW (all:List UInt8) (m i:Nat):(nG all m i).length=min m (all.length-i*m):=by
 unfold nG
 rw [aA,a8]
theorem n9 {a:AgA} {all:List UInt8} {m i:Nat} (hd:a.deg=none) (hm:m≤64) (b:0<m) (d:i*m<all.length):a.taken (jF all m i)=(match a.com with
 | none=>(a.jb,none)
 | some (tv,of,got) =>
  if (UInt8.ofNat i).toNat≠got.length then (a.jM,none)
  else if got.length+1<of then (AgA.jM {a with com:=some (tv,of,got++[nG all m i])},none)
  else AgA.lO {a with com:=none} tv (got++[nG all m i]).flatten):=by
 unfold AgA.taken jF
 rw [aw (by rw [hd];decide),ni]
 show a.piece (UInt8.ofNat i::nG all m i)=_
 have hl:=vW all m i
 unfold AgA.piece
 rw [aw (by rw [au];omega),aw (by rw [au];omega)]
 cases a.com <;> rfl
theorem pN.piece {n s B k m i:Nat} {H:fJ} {p:PAg} {T:List E} {all:List UInt8} (h:pN n s B H p T (some (9,k,jS all m i))) (hm:m≤64) (b:0<m) (j:i*m<all.length) (hk:i+1<k) (o:k≤16):∃ d,iy H p (jF all m i)=(H,d)∧pN n s B H d T (some (9,k,jS all m (i+1))):=by
 have hl:=nH all m i
 have l:p.a.taken (jF all m i)=(AgA.jM {p.a with com:=some (9,k,jS all m (i+1))},none):=by
  rw [n9 h.deg hm b j,h.com]
  simp only
  rw [hl,aw (by rw [dz];omega),aF hk,pg]
 have:=h.rP l
 rw [show (AgA.jM {p.a with com:=some (9,k,jS all m (i+1))}).com=_ from sC _ _ _] at this
 exact ⟨_,this⟩
theorem pN.again {n s B k m i j:Nat} {H:fJ} {p:PAg} {T:List E} {all:List UInt8} (h:pN n s B H p T (some (9,k,jS all m j))) (hm:m≤64) (b:0<m) (l:i*m<all.length) (r:i≠j) (q:i<256):∃ d,iy H p (jF all m i)=(H,d)∧pN n s B H d T (some (9,k,jS all m j)):=by
 have hl:=nH all m j
 have o:p.a.taken (jF all m i)=(p.a.jM,none):=by
  rw [n9 h.deg hm b l,h.com]
  simp only
  rw [hl,aF (by rw [dz];omega)]
 have:=h.rP o
 rw [show (p.a.jM).com=_ from (sC _ _ _).trans h.com] at this
 exact ⟨_,this⟩
def pR (n s B:Nat) (H:fJ) (p:PAg) (T U:List E):Prop :=
 (H.dp.dead=true∧∃ ever a,MachSt n [] s B H (some p) a [(1,T),(9,U)] ever false)∨
 (H.dp.dead=false∧p.a.V=9∧p.a.T=U∧p.a.deg=none∧p.a.com=none∧∃ ever,MachSt n [] s B H (some p) p.a [(9,U)] ever false)
theorem pN.last {n s B k m i:Nat} {H:fJ} {p:PAg} {T U:List E} (h:pN n s B H p T (some (9,k,jS (gH 9 U) m i))) (hm:m≤64) (G:0<m) (O:i*m<(gH 9 U).length) (hk:i+1=k) (aa:k≤16) (u:(gH 9 U).length≤k*m) (b:In60 U) (hs:s+2<18446744073709551616):∃ H' l,iy H p (jF (gH 9 U) m i)=(H',l)∧pR n (s+2) (B+1000) H' l T U:=by
 obtain ⟨ever,r⟩:=h.st
 have hl:=nH (gH 9 U) m i
 have y:iD (gH 9 U) = .inl (9,U):=tJ (pE (by omega) (by omega)) b.sorted b.good (by
  have h1:=b.gH 9
  rw [lH] at h1
  have h2:=rL b.good
  have c0:=b.count 0
  have c1:=b.count 1
  have c2:=b.count 2
  rw [kZ.1] at c0
  rw [kZ.2.1] at c1
  rw [kZ.2.2] at c2
  have:=sp b.good
  omega)
 have Q:p.a.taken (jF (gH 9 U) m i)=({p.a with com:=none},some (.state 9 U)):=by
  rw [n9 h.deg hm G O,h.com]
  simp only
  rw [hl,aw (by rw [dz];omega),aw (by omega),←pg,sz,aS (by rw [hk];exact u)]
  unfold AgA.lO
  rw [y]
  simp only
  rw [aw (by omega),aw (by rw [h.v];omega)]
 have C:iq ((ie.state 9 U).T p.a.T) (roomN []) n=none:=b.Ft h.n48.1
 have hn:=h.n48
 obtain ⟨H',l,I,k2,D,J⟩:=r.inv.takes (by omega) hs h.dead Q C (ever':=ever++U) fun x j=>by
  rcases j with j | j
  ·exact dQ _ j
  ·exact List.mem_append_right _ j
 have o:AgA.takes {p.a with com:=none} (.state 9 U) (roomN []) n=AgA.lJ {p.a with com:=none,V:=9,T:=U} := by
  unfold AgA.takes
  have q:∀ A,iq ((ie.state 9 U).T A) (roomN []) n=none:=fun _=>b.Ft h.n48.1
  rw [q]
  rfl
 obtain ⟨R,S,W⟩:=jD {p.a with com:=none,V:=9,T:=U} 17 (j4 9)
 have X:=sC {p.a with com:=none,V:=9,T:=U} 17 (j4 9)
 have M:(AgA.takes {p.a with com:=none} (.state 9 U) (roomN []) n).V=9:=by rw [o];exact S
 have N:(AgA.takes {p.a with com:=none} (.state 9 U) (roomN []) n).T=U:=by rw [o];exact W
 have Y:(AgA.takes {p.a with com:=none} (.state 9 U) (roomN []) n).deg=none:=by rw [o];exact R.trans h.deg
 have Z:(AgA.takes {p.a with com:=none} (.state 9 U) (roomN []) n).com=none:=by rw [o];exact X
 rw [M,N] at D J
 rw [show ({p.a with com:=none} : AgA).V=1 from h.v,show ({p.a with com:=none} : AgA).T=T from h.t] at D
 have d := @MachSt.recv n [] s B H p p.a [(1,T)] ever false r h.dead (jF (gH 9 U) m i)
 rw [I] at d
 simp only at d
 refine ⟨H',l,I,?_⟩
 cases hd:H'.dp.dead with
 | true=>exact .inl ⟨hd,_,_,d rfl (D hd).1⟩
 | false =>
  rcases J hd with ⟨r1,-,-,F⟩ | ⟨-,-,F,-⟩
  ·have hm:=d rfl F
   rw [←r1] at hm
   exact .inr ⟨hd,by rw [r1,M],by rw [r1,N],by rw [r1,Y],by rw [r1,Z],_,hm⟩
  ·cases F
theorem pR.again {n s B m i:Nat} {H:fJ} {p:PAg} {T U:List E} {all:List UInt8} (h:pR n s B H p T U) (hd:H.dp.dead=false) (hm:m≤64) (j:0<m) (q:i*m<all.length):∃ l,iy H p (jF all m i)=(H,l)∧pR n s B H l T U:=by
 rcases h with ⟨h1,-⟩ | ⟨h1,h2,h3,h4,h5,ever,b⟩
 ·rw [hd] at h1
  cases h1
 ·have d:p.a.taken (jF all m i)=(p.a.jb,none):=by
   rw [n9 h4 hm j q,h5]
  obtain ⟨t1,t2,t3⟩:=pw d
  have o:=(b.fit p rfl).taken (jF all m i)
  rw [d] at o
  refine ⟨{p with a:=p.a.jb},?_,.inr ⟨h1,t1.trans h2,t2.trans h3,t3.trans h4,(sC _ _ _).trans h5,ever,b.own t1 t2 t3 rfl o⟩⟩
  unfold iy
  rw [d]
theorem pR.ready {n s B:Nat} {H:fJ} {p:PAg} {T U:List E} (h:pR n s B H p T U) (hd:H.dp.dead=false) (d:B≤800000000) (hs:s<8999999999999999999):uT n [] B H p:=by
 rcases h with ⟨h1,-⟩ | ⟨h1,h2,h3,h4,h5,ever,b⟩
 ·rw [hd] at h1
  cases h1
 ·obtain ⟨-,g2,-,g5,-⟩:=b.inv.up p rfl hd
  exact ⟨b.fine,d,b.fit p rfl,fun e=>(g5 e).1,by omega⟩
def uX (n k m i:Nat) (H:fJ) (p:PAg) (T U:List E):Prop:=(i<k∧pN n 2 1480 H p T (some (9,k,jS (gH 9 U) m i)))∨(i=k∧pR n 4 2480 H p T U)
theorem uX.ready {n k m i:Nat} {H:fJ} {p:PAg} {T U:List E} (h:uX n k m i H p T U) (hd:H.dp.dead=false):uT n [] 2480 H p:=by
 rcases h with ⟨-,h⟩ | ⟨-,h⟩
 ·obtain ⟨r1,r2,b,d,j⟩:=h.ready (by omega) (by omega)
  exact ⟨r1.mono (by omega),by omega,b,d,j⟩
 ·exact h.ready hd (by omega) (by omega)
theorem uX.step {n k m i:Nat} {H:fJ} {p:PAg} {T U:List E} (h:uX n k m i H p T U) (s:i<k) (hm:m≤64) (j:0<m) (o:k≤16) (q:(gH 9 U).length≤k*m) (l:i*m<(gH 9 U).length) (r:In60 U) :
  H.dp.dead=false∧∃ H' d,iy H p (jF (gH 9 U) m i)=(H',d)∧uX n k m (i+1) H' d T U∧(H'.dp.dead=false→∃ b,iy H' d (jF (gH 9 U) m i)=(H',b)∧uX n k m (i+1) H' b T U):=by
 rcases h with ⟨-,h⟩ | ⟨h,-⟩
 ·refine ⟨h.dead,?_⟩
  by_cases hk:i+1<k
  ·obtain ⟨d,h1,h2⟩:=h.piece hm j l hk o
   obtain ⟨b,h3,h4⟩:=h2.again hm j l (by omega) (by omega)
   exact ⟨H,d,h1,.inl ⟨hk,h2⟩,fun _=>⟨b,h3,.inl ⟨hk,h4⟩⟩⟩
  ·obtain ⟨H',d,h1,h2⟩:=h.last hm j l (by omega) o q r (by omega)
   refine ⟨H',d,h1,.inr ⟨by omega,h2⟩,fun hd => ?_⟩
   obtain ⟨b,h3,h4⟩:=h2.again hd hm j l
   exact ⟨b,h3,.inr ⟨by omega,h4⟩⟩
 ·omega
theorem uX.end {n k m i:Nat} {H:fJ} {p:PAg} {T U:List E} (h:uX n k m i H p T U) (he:¬i<k∨H.dp.dead=true):pR n 4 2480 H p T U:=by
 rcases h with ⟨h1,h⟩ | ⟨-,h⟩
 ·rcases he with he | he
  ·exact absurd h1 he
  ·rw [h.dead] at he;cases he
 ·exact h
theorem vX (all:List UInt8) (m i:Nat) (hm:m≤64):(jF all m i).length≤1000000:=by
 have:=vW all m i
 unfold jF
 rw [nf,au]
 omega
theorem pR.ph {n s B:Nat} {H:fJ} {p:PAg} {T U:List E} (h:pR n s B H p T U) (F:48≤n∧n≤128) (G:In60 T) (x:In60 U) (mask:Int) :
  ∃ H' b,ia (H.again mask (-1) (-1))=(H',.inl b)∧H'.dp.S=b.a.T∧b.a.deg=none∧Fine n [] B H∧mS n [] (H.again mask (-1) (-1)).seen∧((b.a.V=9∧b.a.T=U)∨(H.dp.dead=true∧b.a.V=1∧b.a.T=T)):=by
 have key:∀ (a:AgA) (r:List (Nat×List E)) (ever:List E),MachSt n [] s B H (some p) a r ever false→(∀ m∈r,In60 m.2)→∃ H' b,ia (H.again mask (-1) (-1))=(H',.inl b)∧H'.dp.S=b.a.T∧b.a.deg=none∧Fine n [] B H∧mS n [] (H.again mask (-1) (-1)).seen∧(b.a.V,b.a.T)∈r:=fun a r ever d y=>by
  obtain ⟨H',b,v,V,j,l,i,-,o,q⟩:=j7.ph d F y mask (-1) (by omega)
  have C:=q (by omega)
  obtain ⟨-,-,I,-,J⟩:=o C.2
  obtain ⟨M,D,-⟩:=jK v V
  refine ⟨H',b,j,by rw [J,i,D],I,d.fine,d.inv.opens mask (-1) (-1),?_⟩
  rw [i,M,D]
  exact l
 rcases h with ⟨h1,ever,a,d⟩ | ⟨h1,h2,h3,h4,h5,ever,d⟩
 ·obtain ⟨H',b,j,l,i,u,o,q⟩:=key a _ ever d (fun m hm=>by
   rcases aV.1 hm with rfl | hm
   ·exact G
   ·rw [az.1 hm];exact x)
  refine ⟨H',b,j,l,i,u,o,?_⟩
  rcases aV.1 q with e | e
  ·exact .inr ⟨h1,bB Prod.fst e,bB Prod.snd e⟩
  ·have e:=az.1 e
   exact .inl ⟨bB Prod.fst e,bB Prod.snd e⟩
 ·obtain ⟨H',b,j,l,i,u,o,q⟩:=key _ _ ever d (fun m hm=>by rw [az.1 hm];exact x)
  have e:=az.1 q
  exact ⟨H',b,j,l,i,u,o,.inl ⟨bB Prod.fst e,bB Prod.snd e⟩⟩
theorem j7.whole {n s B:Nat} {H:fJ} {p:PAg} {T:List E} (h:j7 n 1 s B H p T false) (cut:Int) (hc:cut≤9223372036854775807):pN n s B {H with dp := {H.dp with left:=max cut (-1)}} p T p.a.com:=by
 obtain ⟨ever,b⟩:=h.st
 have h1:=b.fine.ok.writes
 have h3:=b.fine.dp.log
 have h4:=b.fine.ok.fail
 exact ⟨⟨ever,b.oq H.writes (max cut (-1)) H.fail H.dp.log false (fun e=>b.inv.arm e) h1 ⟨by omega,by omega⟩ h4 h3⟩,h.v,h.t,h.deg,rfl,h.t60,h.n48,h.dead⟩
end Go.Proofs.YtkkfmkhbdoeglaaGreatDoor
namespace Go.Proofs.YtkkfmkhbdoeglaaGreatDoor
open Go.RowKit
theorem jO.ext {D:Nat→Prop} {w w':World} {fb q r:Nat} {S:List E} (h:jO w fb q r S) (b:Ext D w w') (d:¬D fb) (hq:¬D q) (i:¬D r):jO w' fb q r S :=
 ⟨b.cell d h.cell,b.cell hq h.ent.cell,h.ent.tab.fW (b.block r h.ent.tab.lt i)⟩
end Go.Proofs.YtkkfmkhbdoeglaaGreatDoor
namespace Go.Proofs.YtkkfmkhbdoeglaaGreatDoor
open Go.RowKit
theorem Au (x y:E) (w:World):(binOp .neq 123 (.agg #[.int .i64 x.1.1,.string ⟨x.1.2.toArray⟩,.string ⟨x.2.toArray⟩]) (.agg #[.int .i64 y.1.1,.string ⟨y.1.2.toArray⟩,.string ⟨y.2.toArray⟩])).run Tryz.prog w = .ok (.bool (!decide (x=y))) w:=by
 obtain ⟨⟨a,c⟩,d⟩:=x
 obtain ⟨⟨j,c'⟩,d'⟩:=y
 have h1:∀ (a:Int) (c d:List UInt8),(part 3 #[Value.int .i64 a,.string ⟨c.toArray⟩,.string ⟨d.toArray⟩] 0).run Tryz.prog w = .ok (.int .i64 a) w:=fun a c d=>cP w (by kernel_rfl) rfl
 have h2:∀ (a:Int) (c d:List UInt8),(part 9 #[Value.int .i64 a,.string ⟨c.toArray⟩,.string ⟨d.toArray⟩] 1).run Tryz.prog w = .ok (.string ⟨c.toArray⟩) w:=fun a c d=>cP w (by kernel_rfl) rfl
 have h3:∀ (a:Int) (c d:List UInt8),(part 9 #[Value.int .i64 a,.string ⟨c.toArray⟩,.string ⟨d.toArray⟩] 2).run Tryz.prog w = .ok (.string ⟨d.toArray⟩) w:=fun a c d=>cP w (by kernel_rfl) rfl
 have o:Tryz.prog.underlying 123=some (.struct (Tryz.prog.fieldsOf 123)):=by kernel_rfl
 have u:Tryz.prog.stoodInHeld 123=false:=by kernel_rfl
 have B:=TypeDesc.struct.inj (Option.some.inj (o.symm.trans Tryz.underlying123))
 have b:∀ m (x y:Int),(Op.equalIn (m+1) 3 (.int .i64 x) (.int .i64 y)).run Tryz.prog w = .ok (x==y) w:=fun m x y=>by simp [Op.equalIn,aN Tryz.underlying3]
 have i:∀ m (x y:ByteArray),(Op.equalIn (m+1) 9 (.string x) (.string y)).run Tryz.prog w = .ok (x==y) w:=fun m x y=>by simp [Op.equalIn,aN Tryz.underlying9]
 have l:∀ c c':List UInt8,((⟨c.toArray⟩:ByteArray)==⟨c'.toArray⟩)=decide (c=c'):=fun c c'=>by
  by_cases e:c=c'
  ·rw [e,bZ rfl]
   exact (cR _ _).2 rfl
  ·rw [bm e]
   refine Bool.eq_false_iff.2 fun h=>e ?_
   have:=(cR _ _).1 h
   exact Array.toList_inj.2 (ByteArray.mk.inj this)
 have hd:∀ n,(Op.equalIn (n+2) 123 (.agg #[.int .i64 a,.string ⟨c.toArray⟩,.string ⟨d.toArray⟩]) (.agg #[.int .i64 j,.string ⟨c'.toArray⟩,.string ⟨d'.toArray⟩])).run Tryz.prog w = .ok (decide (((a,c),d)=((j,c'),d'))) w:=by
  intro n
  rw [ft w (n+1) 123 _ _ o u,B]
  simp only [Op.eqFields]
  rw [aF (by decide),aF (by decide),aF (by decide)]
  by_cases q:a=j
  ·subst q
   by_cases r:c=c'
   ·subst r
    by_cases s:d=d'
    ·subst s;simp [h1,h2,h3,b,i,l]
    ·simp [h1,h2,h3,b,i,l,s]
   ·simp [h1,h2,b,i,l,r]
  ·simp [h1,b,q]
 have C:=hd 9998
 simp only [binOp]
 simp [Op.equal,Op.maxDepth,C]
def Gu (l m:List E) (w:World) (k:Nat) (wr:World):Prop:=l.take k=m.take k∧∃ q,wr=w.drewN q
theorem mO (I tv:Value) (l m:List E) (w:World) (h1:ic w I l) (h2:ic w tv m) (hl:l.length≤1000000000) (hm:m.length≤1000000000) :
  Calls Tryz.prog 20 #[I,tv] w fun e w'=>e = .returned (.bool (decide (l=m)))∧Below w.heap.size w w':=by
 obtain ⟨a,cap,rfl,-,J⟩:=h1.opened
 obtain ⟨b,O,rfl,-,M⟩:=h2.opened
 have Q:=ae J
 have R:=ae M
 clear J M h1 h2
 by_cases d:l.length=m.length
 ·have hq:((m.length:Int)==(m.length:Int))=true:=eZ _
  have y:=ae d
  rw [d]
  clear d
  go_enter Tryz.func20,Tryz.ntmps20
  go_wp2
  go_loopw [5] (fun i wr=>∃ k:Nat,k≤m.length∧i = .int .i64 k∧Gu l m w k wr) (fun i _=>m.length-(intOf i).toNat)
  case atStart=>exact ⟨0,aL _,rfl,rfl,0,rfl⟩
  case round =>
   obtain ⟨k,hk,rfl,B,q,rfl⟩:=hrel
   have C:=ae B
   clear B
   by_cases s:k<m.length
   ·have N:(k:Int)<m.length:=by omega
    have D:k<l.length:=by rw [y.out];exact s
    obtain ⟨b1,o1,rfl,c0,c1,c2⟩:=Q.out k D
    obtain ⟨b2,o2,rfl,d0,d1,d2⟩:=R.out k s
    have j:=ae (fun w=>Au l[k] m[k] w)
    have F:Hid (l.take (k+1)=l.take k++[l[k]]):=ae (aO D)
    have u:Hid (m.take (k+1)=m.take k++[m[k]]):=ae (aO s)
    have x:Hid (l[k]≠m[k]→l≠m):=ae fun e S=>e (by subst S;rfl)
    by_cases he:l[k]=m[k]
    ·rw [bZ he] at j
     rw [←he] at u j d0 d1 d2
     clear x he
     generalize l[k]=o at *
     obtain ⟨⟨T,U⟩,V⟩:=o
     have d:=j.out
     go_wp2
     go_quiet (fail)
     go_wp2
     exact ⟨⟨k+1,by omega,by go_num,by rw [F.out,u.out,C.out],_,rfl⟩,by simp [intOf];omega⟩
    ·rw [bm he] at j
     have G:=x.out he
     clear x F u he
     generalize l[k]=o at *
     generalize m[k]=W at *
     obtain ⟨⟨T,U⟩,V⟩:=o
     obtain ⟨⟨T',X⟩,Y⟩:=W
     have r:Hid (decide (l=m)=false):=ae (bm G)
     clear G
     have d:=j.out
     go_wp2
     go_quiet (fail)
     go_wp2
     go_ret
     exact ⟨by rw [r.out];rfl,((Below.refl _ w).drewN _).drewN _⟩
   ·obtain rfl:k=m.length:=by omega
    have Z:¬(m.length:Int)<m.length:=by omega
    have r:Hid (decide (l=m)=true):=ae (bZ (by
     have:=C.out
     rw [be,aS (by rw [y.out];exact ah _)] at this
     exact this))
    go_wp2
    go_ret
    exact ⟨by rw [r.out];rfl,(Below.refl _ w).drewN q⟩
 ·have hq:((l.length:Int)==(m.length:Int))=false:=aD.2 (by omega)
  have r:Hid (decide (l=m)=false):=ae (bm fun e=>d (by rw [e]))
  go_enter Tryz.func20,Tryz.ntmps20
  go_wp2
  go_ret
  exact ⟨by rw [r.out];rfl,Below.refl _ w⟩
end Go.Proofs.YtkkfmkhbdoeglaaGreatDoor
namespace Go.Proofs.YtkkfmkhbdoeglaaGreatDoor
open Go.RowKit
theorem kg.sub {w:World} {a:Option Addr} {n cap:Nat} {l:List Int} (h:kg w (.slice a n cap) l) (k:Nat) (hk:k+8≤l.length):∃ b off,a=some ⟨b,off,none⟩∧n=l.length∧l.length≤cap∧kg w (.slice (some ⟨b,off+k,none⟩) 8 (cap-k)) ((l.drop k).take 8):=by
 obtain ⟨q,cap',he,hc,j⟩:=h.opened
 cases he
 obtain ⟨b,off,rfl,-⟩:=j k (by omega)
 have d:((l.drop k).take 8).length=8:=by rw [aA,a8];omega
 refine ⟨b,off,rfl,rfl,hc,by rw [aH,d],some ⟨b,off+k,none⟩,cap-k,by rw [d],by rw [d];omega,fun i m=>⟨b,off+k,rfl,?_⟩⟩
 rw [aH,d] at m
 obtain ⟨r,o,e,c⟩:=j (k+i) (by omega)
 cases e
 rw [aW,c]
 simp [List.getElem_take,List.getElem_drop]
theorem vy (l:List Int):jP (gy l):=by
 have h:=kq l 1 (by decide)
 obtain ⟨-,q⟩:=oO h
 intro o hm
 obtain ⟨hk,r,h3,d,b⟩:=q o hm
 have i:=jg d
 have m:o.table=0∨o.table=1∨o.table=2:=by omega
 have s:o.key.length≤6:=by rcases m with e | e | e <;> (rw [e] at i;unfold fN at i;simp at i;omega)
 have u:o.val.length≤4:=by
  unfold od at b
  split at b
  ·have:o.val=[]:=by simpa using b
   rw [this];simp
  ·have j:=iO r h3 b
   rcases m with e | e | e <;> (rw [e] at j;unfold fZ at j;simp at j;omega)
 unfold gx
 omega
theorem GH {S:List E} (h:Gq S):∀ x∈S,jP [mF x]:=fun x b o d=>by
 rw [az.1 d]
 obtain ⟨-,-,h1,h2⟩:=h x b
 unfold gx mF
 simp only []
 omega
end Go.Proofs.YtkkfmkhbdoeglaaGreatDoor
