/- A part of what is proved here: lemmas and contracts of single functions. No condition but those that each names. -/
import Derived.Test.YtkkfmkhbdoeglabGreatDoorG00
import Derived.Test.YtkkfmkhbdoeglabGreatDoorG02
import Derived.Test.YtkkfmkhbdoeglabGreatDoorG06
import Derived.Test.YtkkfmkhbdoeglabGreatDoorG13
set_option maxHeartbeats 1000000
set_option maxRecDepth 100000
namespace Go.Proofs.YtkkfmkhbdoeglabGreatDoor
open Go.RowKit
theorem kS (c n:Int) (w:World) (h1 : -9223372036854775808≤c) (h2:c≤9223372036854775807) (i:1≤n) :
  Calls Tryz.prog 37 #[.int .i64 c,.int .i64 n] w fun e w'=>e = .returned (.int .i64 (ji c n))∧w=w':=by
 have d:(n==0)=false:=by rw [aA];omega
 by_cases hc:c<0
 ·have b:Hid (ji c n=(-(c+1))%n):=ab (by unfold ji;rw [aD hc])
  go_enter Tryz.func37,Tryz.ntmps37
  go_wp2
  go_ret
  exact ⟨by rw [b.out];exact aZ (fun x=>Ending.returned (.int .i64 x)) (by rw [←Int.neg_tmod,Int.tmod_eq_emod_of_nonneg (by omega)]),rfl⟩
 ·have b:Hid (ji c n=c%n):=ab (by unfold ji;rw [au hc])
  go_enter Tryz.func37,Tryz.ntmps37
  go_wp2
  go_ret
  exact ⟨by rw [b.out];rfl,rfl⟩
end Go.Proofs.YtkkfmkhbdoeglabGreatDoor
namespace Go.Proofs.YtkkfmkhbdoeglabGreatDoor
open Go.RowKit
theorem wI (w:World) (l:List UInt8) (C:Array Value) (n:Nat) (d:l.length=n) (b:C.toList=u8s l) (hm:n≤100):BytesAt (w.alloc (.cells C 5)) (.slice (some ⟨w.heap.size,0,none⟩) n n) l:=by
 subst d
 have hmx:maxLen=9223372036854775807:=rfl
 have hs:C.size=l.length:=by rw [←dh,b,iY]
 have h:=OwnS.new w C 5 0 0 0 1 l.length l.length (aM _) (af _) (by omega) (by omega) (.inl (by omega))
 rw [Nat.mul_one,b,aQ (by rw [iY];omega)] at h
 exact h.bytes
def keyN (n:Nat):K :=
 if n%3=0 then (0,[2,0,0,0,UInt8.ofNat (n / 3%5),UInt8.ofNat (n / 15)])
 else if n%3=1 then (1,[10,UInt8.ofNat (n / 3%5),0,0,UInt8.ofNat (16+n / 15)])
 else (2,[UInt8.ofNat (n / 3%5),UInt8.ofNat (n / 15)])
theorem AJ (c:Int) (w:World) (h1 : -9223372036854775808≤c) (h2:c≤9223372036854775807) :
  Calls Tryz.prog 123 #[.int .i64 c] w fun e w'=>e = .returned (jh (keyN (ji c 60).toNat).1 (keyN (ji c 60).toNat).2)∧Below w.heap.size w w':=by
 obtain ⟨q,r⟩:=iV c 60 (by omega)
 have l:=ab (kS c 60)
 obtain ⟨n,s⟩:=fE q
 rw [s] at l r⊢
 rw [dV]
 have F:n<60:=by omega
 clear q r s
 obtain ⟨B,u⟩:∃ B:UInt8,(B.toNat:Int)=(n:Int) / 3%5∧B=UInt8.ofNat (n / 3%5):=⟨UInt8.ofNat (n / 3%5),by simp;omega,rfl⟩
 obtain ⟨X,x⟩:∃ X:UInt8,(X.toNat:Int)=(n:Int) / 15∧X=UInt8.ofNat (n / 15):=⟨UInt8.ofNat (n / 15),by simp;omega,rfl⟩
 obtain ⟨Y,y⟩:∃ Y:UInt8,(Y.toNat:Int)=16+(n:Int) / 15∧Y=UInt8.ofNat (16+n / 15):=⟨UInt8.ofNat (16+n / 15),by simp;omega,rfl⟩
 have d:=ab u
 have m:=ab x
 have C:=ab y
 clear u x y
 have hm:=Nat.mod_lt n (show 3 > 0 by omega)
 by_cases i:n%3=0
 ·have D:((n:Int)%3==0)=true:=by rw [a8];omega
  have hk:Hid (keyN n=(0,[2,0,0,0,B,X])):=ab (by unfold keyN;rw [aD i,d.out.2,m.out.2])
  have b:(#[.int .u8 2,.int .u8 0,.int .u8 0,.int .u8 0,.int .u8 ((n:Int) / 3%5),.int .u8 ((n:Int) / 15)]:Array Value).toList=u8s [2,0,0,0,B,X]:=by simp [u8s,d.out.1,m.out.1]
  have j:=ab b
  clear b
  go_enter Tryz.func123,Tryz.ntmps123
  go_wp2_with (first
   | (go_at_call 37;refine (l.out _ h1 h2 (by omega)).mono ?_;rintro e w1 ⟨rfl,rfl⟩)
   | (refine gR rfl (.tmp 20) rfl [2,0,0,0,B,X] (by have h:=wI (w.alloc (.cells #[.int .i64 0,.string ⟨#[]⟩] 103)) [2,0,0,0,B,X] _ 6 rfl j.out (by omega);rw [aw] at h;exact h) ?_))
  refine aI (v:=jh 0 [2,0,0,0,B,X]) (by simp [results,Tryz.results123,go_sem,jh]) rfl ⟨by rw [hk.out],((Below.refl _ w).alloc (af _) _).alloc (by simp) _⟩
 ·have D:((n:Int)%3==0)=false:=by rw [aA];omega
  by_cases o:n%3=1
  ·have E:((n:Int)%3==1)=true:=by rw [a8];omega
   have hk:Hid (keyN n=(1,[10,B,0,0,Y])):=ab (by unfold keyN;rw [au i,aD o,d.out.2,C.out.2])
   have b:(#[.int .u8 10,.int .u8 ((n:Int) / 3%5),.int .u8 0,.int .u8 0,.int .u8 (16+(n:Int) / 15)]:Array Value).toList=u8s [10,B,0,0,Y]:=by simp [u8s,d.out.1,C.out.1]
   have j:=ab b
   clear b
   go_enter Tryz.func123,Tryz.ntmps123
   go_wp2_with (first
    | (go_at_call 37;refine (l.out _ h1 h2 (by omega)).mono ?_;rintro e w1 ⟨rfl,rfl⟩)
    | (refine gR rfl (.tmp 31) rfl [10,B,0,0,Y] (by have h:=wI (w.alloc (.cells #[.int .i64 0,.string ⟨#[]⟩] 103)) [10,B,0,0,Y] _ 5 rfl j.out (by omega);rw [aw] at h;exact h) ?_))
   refine aI (v:=jh 1 [10,B,0,0,Y]) (by simp [results,Tryz.results123,go_sem,jh]) rfl ⟨by rw [hk.out],((Below.refl _ w).alloc (af _) _).alloc (by simp) _⟩
  ·have E:((n:Int)%3==1)=false:=by rw [aA];omega
   have hk:Hid (keyN n=(2,[B,X])):=ab (by unfold keyN;rw [au i,au o,d.out.2,m.out.2])
   have b:(#[.int .u8 ((n:Int) / 3%5),.int .u8 ((n:Int) / 15)]:Array Value).toList=u8s [B,X]:=by simp [u8s,d.out.1,m.out.1]
   have j:=ab b
   clear b
   go_enter Tryz.func123,Tryz.ntmps123
   go_wp2_with (first
    | (go_at_call 37;refine (l.out _ h1 h2 (by omega)).mono ?_;rintro e w1 ⟨rfl,rfl⟩)
    | (refine gR rfl (.tmp 38) rfl [B,X] (by have h:=wI (w.alloc (.cells #[.int .i64 0,.string ⟨#[]⟩] 103)) [B,X] _ 2 rfl j.out (by omega);rw [aw] at h;exact h) ?_))
   refine aI (v:=jh 2 [B,X]) (by simp [results,Tryz.results123,go_sem,jh]) rfl ⟨by rw [hk.out],((Below.refl _ w).alloc (af _) _).alloc (by simp) _⟩
end Go.Proofs.YtkkfmkhbdoeglabGreatDoor
namespace Go.Proofs.YtkkfmkhbdoeglabGreatDoor
open Go.RowKit
def sQ (n:Nat):UInt8:=if n=0 then 0 else if n=1 then 6 else 17
def td (c d:Int):OpB :=
 let k:=keyN (ji c 60).toNat
 let n:=(ji d 40).toNat
 if n%4=0 then ⟨2,k.1,k.2,[]⟩
 else if k.1=2 then ⟨1,k.1,k.2,[sQ (n%3),UInt8.ofNat (n / 3%2)]⟩
 else ⟨1,k.1,k.2,[1,UInt8.ofNat n,0,9]⟩
theorem yj:∀ n,n<60→0≤(keyN n).1∧(keyN n).1<3∧iz (keyN n).1 (keyN n).2=true:=by decide +kernel
theorem Fu:∀ n,n<40→¬n%4=0→gL 2 [sQ (n%3),UInt8.ofNat (n / 3%2)]=true∧gL 0 [1,UInt8.ofNat n,0,9]=true∧gL 1 [1,UInt8.ofNat n,0,9]=true:=by decide +kernel
theorem wN (c d:Int) (m:List K) (h:m.contains ((td c d).table,(td c d).key)=false):iD (td c d) m=0:=by
 obtain ⟨q,r⟩:=iV c 60 (by omega)
 obtain ⟨s,u⟩:=iV d 40 (by omega)
 obtain ⟨b,i,j⟩:=yj (ji c 60).toNat (by omega)
 have o:=Fu (ji d 40).toNat (by omega)
 unfold td at h⊢
 simp only at h⊢
 by_cases h4:(ji d 40).toNat%4=0
 ·rw [aD h4] at h⊢
  exact lI (.inr rfl) b i j h rfl
 ·obtain ⟨v1,v2,v3⟩:=o h4
  rw [au h4] at h⊢
  by_cases l:(keyN (ji c 60).toNat).1=2
  ·rw [aD l] at h⊢
   refine lI (.inl rfl) b i j h ?_
   unfold o5
   simp only [l]
   exact v1
  ·rw [au l] at h⊢
   refine lI (.inl rfl) b i j h ?_
   unfold o5
   simp only
   rw [au (by decide)]
   have:(keyN (ji c 60).toNat).1=0∨(keyN (ji c 60).toNat).1=1:=by omega
   rcases this with h | h <;> rw [h]
   ·exact v2
   ·exact v3
theorem wB (c d:Int) (w:World) (h1 : -9223372036854775808≤c) (h2:c≤9223372036854775807) (h3 : -9223372036854775808≤d) (h4:d≤9223372036854775807) :
  Calls Tryz.prog 84 #[.int .i64 c,.int .i64 d] w fun e w'=>e = .returned (zu (td c d))∧Below w.heap.size w w':=by
 obtain ⟨q,b2⟩:=iV c 60 (by omega)
 obtain ⟨b3,b4⟩:=iV d 40 (by omega)
 obtain ⟨k1,k2,-⟩:=yj (ji c 60).toNat (by omega)
 have hK:=fun W=>AJ c W h1 h2
 obtain ⟨T,i,hk⟩:∃ T i,keyN (ji c 60).toNat=(T,i):=⟨_,_,rfl⟩
 rw [hk] at hK k1 k2
 have Q:=ab hK
 have M:=ab (kS d 40)
 obtain ⟨n,R⟩:=fE b3
 have S:Hid (td c d=if n%4=0 then ⟨2,T,i,[]⟩ else if T=2 then ⟨1,T,i,[sQ (n%3),UInt8.ofNat (n / 3%2)]⟩ else ⟨1,T,i,[1,UInt8.ofNat n,0,9]⟩):=ab (by
  unfold td
  rw [hk,R,dV])
 rw [R] at M b4
 have a3:n<40:=by omega
 clear q b2 b3 b4 R hk hK
 simp only at k1 k2
 have R0:=fR w (.cells #[.int .i64 0,.int .i64 0,.string ⟨#[]⟩,.string ⟨#[]⟩] 105)
 have u:=ab R0
 clear R0
 have x:=Nat.mod_lt n (show 4 > 0 by omega)
 by_cases l:n%4=0
 ·have av:((n:Int)%4==0)=true:=by rw [a8];omega
  have m:Hid (td c d=⟨2,T,i,[]⟩):=ab (by rw [S.out,aD l])
  clear l x
  go_enter Tryz.func84,Tryz.ntmps84
  go_wp2_with fail
  refine (Q.out _).mono ?_
  rintro e w1 ⟨rfl,j⟩
  unfold jh
  have b:=ab (fQ j (by simp) u.out)
  have N:=j.size
  have r0:=ae _ _ 0 _ _ _ b.out
  have r1:=ae _ _ 1 _ _ _ b.out
  have r2:=ae _ _ 2 _ _ _ b.out
  have r3:=ae _ _ 3 _ _ _ b.out
  have z0:=aj _ _ 0 _ _ b.out
  have z1:=aj _ _ 1 _ _ b.out
  have z2:=aj _ _ 2 _ _ b.out
  have z3:=aj _ _ 3 _ _ b.out
  have O:=fO b.out
  have q:Below w.heap.size w w1:=((Below.refl _ w).alloc (af _) _).trans (j.mono (by simp))
  go_wp2_with (go_at_call 37;refine (M.out _ h3 h4 (by omega)).mono ?_;rintro e w2 ⟨rfl,rfl⟩)
  have X:=zz b.out (.int .i64 2) (.int .i64 T) (.string ⟨i.toArray⟩) (.string ⟨[].toArray⟩)
  have o:=pJ q w.heap.size (.int .i64 2) (.int .i64 T) (.string ⟨i.toArray⟩) (.string ⟨[].toArray⟩) (af _)
  unfold uP at X o
  obtain ⟨y,B,C,D⟩:=X
  have E:=gC (.cells #[.int .i64 2,.int .i64 T,.string ⟨i.toArray⟩,.string ⟨#[]⟩] 105) (y)
  have F:=gC (.cells #[.int .i64 2,.int .i64 T,.string ⟨i.toArray⟩,.string ⟨#[]⟩] 105) (B)
  have G:=gC (.cells #[.int .i64 2,.int .i64 T,.string ⟨i.toArray⟩,.string ⟨#[]⟩] 105) (C)
  have I:=gC (.cells #[.int .i64 2,.int .i64 T,.string ⟨i.toArray⟩,.string ⟨#[]⟩] 105) (D)
  refine aI (v:=zu ⟨2,T,i,[]⟩) (by simp [results,Tryz.results84,go_sem,zu,E,F,G,I]) rfl ⟨by rw [m.out],?_⟩
  exact (o).al _
 ·have av:((n:Int)%4==0)=false:=by rw [aA];omega
  by_cases s:T=2
  ·have a1:(T==2)=true:=by rw [a8];exact s
   have a4:=Nat.mod_lt n (show 3 > 0 by omega)
   obtain ⟨Z,U⟩:∃ Z:UInt8,(∀ w,(Instr.index 9 (.string ⟨[0,6,17].toArray⟩) (.int .i64 ((n:Int)%3))).run Tryz.prog w = .ok (.int .u8 Z.toNat) w)∧Z=sQ (n%3):=by
    refine ⟨sQ (n%3),fun w=>iI Tryz.underlying9 _ _ _ _ (by omega) ?_ w,rfl⟩
    rw [show ((n:Int)%3).toNat=n%3 by omega]
    have:n%3=0∨n%3=1∨n%3=2:=by omega
    rcases this with h | h | h <;> rw [h] <;> rfl
   obtain ⟨Y,r⟩:∃ Y:UInt8,(Y.toNat:Int)=(n:Int) / 3%2∧Y=UInt8.ofNat (n / 3%2):=⟨UInt8.ofNat (n / 3%2),by simp;omega,rfl⟩
   have m:Hid (td c d=⟨1,T,i,[Z,Y]⟩):=ab (by rw [S.out,au l,aD s,U.2,r.2])
   have a5:=U.1
   have a6:=Z.toNat_lt
   have J:(#[.int .u8 (Z.toNat:Int),.int .u8 ((n:Int) / 3%2)]:Array Value).toList=u8s [Z,Y]:=by simp [u8s,r.1]
   have V:=ab J
   clear J U r s l x
   go_enter Tryz.func84,Tryz.ntmps84
   go_wp2_with fail
   refine (Q.out _).mono ?_
   rintro e w1 ⟨rfl,j⟩
   unfold jh
   have b:=ab (fQ j (by simp) u.out)
   have N:=j.size
   have r0:=ae _ _ 0 _ _ _ b.out
   have r1:=ae _ _ 1 _ _ _ b.out
   have r2:=ae _ _ 2 _ _ _ b.out
   have r3:=ae _ _ 3 _ _ _ b.out
   have z0:=aj _ _ 0 _ _ b.out
   have z1:=aj _ _ 1 _ _ b.out
   have z2:=aj _ _ 2 _ _ b.out
   have z3:=aj _ _ 3 _ _ b.out
   have O:=fO b.out
   have q:Below w.heap.size w w1:=((Below.refl _ w).alloc (af _) _).trans (j.mono (by simp))
   go_wp2_with (first
    | (go_at_call 37;refine (M.out _ h3 h4 (by omega)).mono ?_;rintro e w2 ⟨rfl,rfl⟩)
    | (refine gR rfl (.tmp 34) rfl [Z,Y] (by have h:=wI (w1.alloc (.cells #[.int .i64 1,.int .i64 T,.string ⟨i.toArray⟩,.string ⟨#[]⟩] 105)) [Z,Y] _ 2 rfl V.out (by omega);rw [aw] at h;exact h) ?_))
   have X:=zz b.out (.int .i64 1) (.int .i64 T) (.string ⟨i.toArray⟩) (.string ⟨[Z,Y].toArray⟩)
   have o:=pJ q w.heap.size (.int .i64 1) (.int .i64 T) (.string ⟨i.toArray⟩) (.string ⟨[Z,Y].toArray⟩) (af _)
   unfold uP at X o
   obtain ⟨y,B,C,D⟩:=X
   have E:=gC (.cells #[.int .u8 (Z.toNat:Int),.int .u8 ((n:Int) / 3%2)] 5) (gC (.cells #[.int .i64 1,.int .i64 T,.string ⟨i.toArray⟩,.string ⟨[Z,Y].toArray⟩] 105) (y))
   have F:=gC (.cells #[.int .u8 (Z.toNat:Int),.int .u8 ((n:Int) / 3%2)] 5) (gC (.cells #[.int .i64 1,.int .i64 T,.string ⟨i.toArray⟩,.string ⟨[Z,Y].toArray⟩] 105) (B))
   have G:=gC (.cells #[.int .u8 (Z.toNat:Int),.int .u8 ((n:Int) / 3%2)] 5) (gC (.cells #[.int .i64 1,.int .i64 T,.string ⟨i.toArray⟩,.string ⟨[Z,Y].toArray⟩] 105) (C))
   have I:=gC (.cells #[.int .u8 (Z.toNat:Int),.int .u8 ((n:Int) / 3%2)] 5) (gC (.cells #[.int .i64 1,.int .i64 T,.string ⟨i.toArray⟩,.string ⟨[Z,Y].toArray⟩] 105) (D))
   refine aI (v:=zu ⟨1,T,i,[Z,Y]⟩) (by simp [results,Tryz.results84,go_sem,zu,E,F,G,I]) rfl ⟨by rw [m.out],?_⟩
   exact ((o).al _).al _
  ·have a1:(T==2)=false:=by rw [aA];exact s
   obtain ⟨Y,r⟩:∃ Y:UInt8,(Y.toNat:Int)=(n:Int)∧Y=UInt8.ofNat n:=⟨UInt8.ofNat n,by simp;omega,rfl⟩
   have m:Hid (td c d=⟨1,T,i,[1,Y,0,9]⟩):=ab (by rw [S.out,au l,au s,r.2])
   have J:(#[.int .u8 1,.int .u8 (n:Int),.int .u8 0,.int .u8 9]:Array Value).toList=u8s [1,Y,0,9]:=by simp [u8s,r.1]
   have V:=ab J
   clear J r s l x
   go_enter Tryz.func84,Tryz.ntmps84
   go_wp2_with fail
   refine (Q.out _).mono ?_
   rintro e w1 ⟨rfl,j⟩
   unfold jh
   have b:=ab (fQ j (by simp) u.out)
   have N:=j.size
   have r0:=ae _ _ 0 _ _ _ b.out
   have r1:=ae _ _ 1 _ _ _ b.out
   have r2:=ae _ _ 2 _ _ _ b.out
   have r3:=ae _ _ 3 _ _ _ b.out
   have z0:=aj _ _ 0 _ _ b.out
   have z1:=aj _ _ 1 _ _ b.out
   have z2:=aj _ _ 2 _ _ b.out
   have z3:=aj _ _ 3 _ _ b.out
   have O:=fO b.out
   have q:Below w.heap.size w w1:=((Below.refl _ w).alloc (af _) _).trans (j.mono (by simp))
   go_wp2_with (first
    | (go_at_call 37;refine (M.out _ h3 h4 (by omega)).mono ?_;rintro e w2 ⟨rfl,rfl⟩)
    | (refine gR rfl (.tmp 14) rfl [1,Y,0,9] (by have h:=wI (w1.alloc (.cells #[.int .i64 1,.int .i64 T,.string ⟨i.toArray⟩,.string ⟨#[]⟩] 105)) [1,Y,0,9] _ 4 rfl V.out (by omega);rw [aw] at h;exact h) ?_))
   have X:=zz b.out (.int .i64 1) (.int .i64 T) (.string ⟨i.toArray⟩) (.string ⟨[1,Y,0,9].toArray⟩)
   have o:=pJ q w.heap.size (.int .i64 1) (.int .i64 T) (.string ⟨i.toArray⟩) (.string ⟨[1,Y,0,9].toArray⟩) (af _)
   unfold uP at X o
   obtain ⟨y,B,C,D⟩:=X
   have E:=gC (.cells #[.int .u8 1,.int .u8 (n:Int),.int .u8 0,.int .u8 9] 5) (gC (.cells #[.int .i64 1,.int .i64 T,.string ⟨i.toArray⟩,.string ⟨[1,Y,0,9].toArray⟩] 105) (y))
   have F:=gC (.cells #[.int .u8 1,.int .u8 (n:Int),.int .u8 0,.int .u8 9] 5) (gC (.cells #[.int .i64 1,.int .i64 T,.string ⟨i.toArray⟩,.string ⟨[1,Y,0,9].toArray⟩] 105) (B))
   have G:=gC (.cells #[.int .u8 1,.int .u8 (n:Int),.int .u8 0,.int .u8 9] 5) (gC (.cells #[.int .i64 1,.int .i64 T,.string ⟨i.toArray⟩,.string ⟨[1,Y,0,9].toArray⟩] 105) (C))
   have I:=gC (.cells #[.int .u8 1,.int .u8 (n:Int),.int .u8 0,.int .u8 9] 5) (gC (.cells #[.int .i64 1,.int .i64 T,.string ⟨i.toArray⟩,.string ⟨[1,Y,0,9].toArray⟩] 105) (D))
   refine aI (v:=zu ⟨1,T,i,[1,Y,0,9]⟩) (by simp [results,Tryz.results84,go_sem,zu,E,F,G,I]) rfl ⟨by rw [m.out],?_⟩
   exact ((o).al _).al _
end Go.Proofs.YtkkfmkhbdoeglabGreatDoor
