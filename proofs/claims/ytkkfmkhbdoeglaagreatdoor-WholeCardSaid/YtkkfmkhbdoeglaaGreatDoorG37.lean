/- A part of what is proved here: lemmas and contracts of single functions. No condition but those that each names. -/
import Derived.Test.YtkkfmkhbdoeglaaGreatDoorG00
import Derived.Test.YtkkfmkhbdoeglaaGreatDoorG02
import Derived.Test.YtkkfmkhbdoeglaaGreatDoorG05
import Derived.Test.YtkkfmkhbdoeglaaGreatDoorG13
set_option maxHeartbeats 1000000
set_option maxRecDepth 100000
namespace Go.Proofs.YtkkfmkhbdoeglaaGreatDoor
open Go.RowKit
theorem kL (c n:Int) (w:World) (h1 : -9223372036854775808≤c) (h2:c≤9223372036854775807) (i:1≤n) :
  Calls Tryz.prog 9 #[.int .i64 c,.int .i64 n] w fun e w'=>e = .returned (.int .i64 (ji c n))∧w=w':=by
 have d:(n==0)=false:=by rw [aD];omega
 by_cases hc:c<0
 ·have b:Hid (ji c n=(-(c+1))%n):=ae (by unfold ji;rw [aF hc])
  go_enter Tryz.func9,Tryz.ntmps9
  go_wp2
  go_ret
  exact ⟨by rw [b.out];exact bB (fun x=>Ending.returned (.int .i64 x)) (by rw [←Int.neg_tmod,Int.tmod_eq_emod_of_nonneg (by omega)]),rfl⟩
 ·have b:Hid (ji c n=c%n):=ae (by unfold ji;rw [aw hc])
  go_enter Tryz.func9,Tryz.ntmps9
  go_wp2
  go_ret
  exact ⟨by rw [b.out];rfl,rfl⟩
end Go.Proofs.YtkkfmkhbdoeglaaGreatDoor
namespace Go.Proofs.YtkkfmkhbdoeglaaGreatDoor
open Go.RowKit
theorem sU (w:World) (l:List UInt8) (C:Array Value) (n:Nat) (d:l.length=n) (b:C.toList=u8s l) (hm:n≤100):BytesAt (w.alloc (.cells C 5)) (.slice (some ⟨w.heap.size,0,none⟩) n n) l:=by
 subst d
 have hmx:maxLen=9223372036854775807:=rfl
 have hs:C.size=l.length:=by rw [←dh,b,iR]
 have h:=OwnS.new w C 5 0 0 0 1 l.length l.length (aL _) (ah _) (by omega) (by omega) (.inl (by omega))
 rw [Nat.mul_one,b,aS (by rw [iR];omega)] at h
 exact h.bytes
def keyN (n:Nat):K :=
 if n%3=0 then (0,[2,0,0,0,UInt8.ofNat (n / 3%5),UInt8.ofNat (n / 15)])
 else if n%3=1 then (1,[10,UInt8.ofNat (n / 3%5),0,0,UInt8.ofNat (16+n / 15)])
 else (2,[UInt8.ofNat (n / 3%5),UInt8.ofNat (n / 15)])
theorem Ah (c:Int) (w:World) (h1 : -9223372036854775808≤c) (h2:c≤9223372036854775807) :
  Calls Tryz.prog 79 #[.int .i64 c] w fun e w'=>e = .returned (iX (keyN (ji c 60).toNat).1 (keyN (ji c 60).toNat).2)∧Below w.heap.size w w':=by
 obtain ⟨q,r⟩:=iP c 60 (by omega)
 have l:=ae (kL c 60)
 obtain ⟨n,s⟩:=fx q
 rw [s] at l r⊢
 rw [dU]
 have F:n<60:=by omega
 clear q r s
 obtain ⟨B,u⟩:∃ B:UInt8,(B.toNat:Int)=(n:Int) / 3%5∧B=UInt8.ofNat (n / 3%5):=⟨UInt8.ofNat (n / 3%5),by simp;omega,rfl⟩
 obtain ⟨X,x⟩:∃ X:UInt8,(X.toNat:Int)=(n:Int) / 15∧X=UInt8.ofNat (n / 15):=⟨UInt8.ofNat (n / 15),by simp;omega,rfl⟩
 obtain ⟨Y,y⟩:∃ Y:UInt8,(Y.toNat:Int)=16+(n:Int) / 15∧Y=UInt8.ofNat (16+n / 15):=⟨UInt8.ofNat (16+n / 15),by simp;omega,rfl⟩
 have d:=ae u
 have m:=ae x
 have C:=ae y
 clear u x y
 have hm:=Nat.mod_lt n (show 3 > 0 by omega)
 by_cases i:n%3=0
 ·have D:((n:Int)%3==0)=true:=by rw [bj];omega
  have hk:Hid (keyN n=(0,[2,0,0,0,B,X])):=ae (by unfold keyN;rw [aF i,d.out.2,m.out.2])
  have b:(#[.int .u8 2,.int .u8 0,.int .u8 0,.int .u8 0,.int .u8 ((n:Int) / 3%5),.int .u8 ((n:Int) / 15)]:Array Value).toList=u8s [2,0,0,0,B,X]:=by simp [u8s,d.out.1,m.out.1]
  have j:=ae b
  clear b
  go_enter Tryz.func79,Tryz.ntmps79
  go_wp2_with (first
   | (go_at_call 9;refine (l.out _ h1 h2 (by omega)).mono ?_;rintro e w1 ⟨rfl,rfl⟩)
   | (refine gF rfl (.tmp 20) rfl [2,0,0,0,B,X] (by have h:=sU (w.alloc (.cells #[.int .i64 0,.string ⟨#[]⟩] 94)) [2,0,0,0,B,X] _ 6 rfl j.out (by omega);rw [ax] at h;exact h) ?_))
  refine aK (v:=iX 0 [2,0,0,0,B,X]) (by simp [results,Tryz.results79,go_sem,iX]) rfl ⟨by rw [hk.out],((Below.refl _ w).alloc (ah _) _).alloc (by simp) _⟩
 ·have D:((n:Int)%3==0)=false:=by rw [aD];omega
  by_cases o:n%3=1
  ·have E:((n:Int)%3==1)=true:=by rw [bj];omega
   have hk:Hid (keyN n=(1,[10,B,0,0,Y])):=ae (by unfold keyN;rw [aw i,aF o,d.out.2,C.out.2])
   have b:(#[.int .u8 10,.int .u8 ((n:Int) / 3%5),.int .u8 0,.int .u8 0,.int .u8 (16+(n:Int) / 15)]:Array Value).toList=u8s [10,B,0,0,Y]:=by simp [u8s,d.out.1,C.out.1]
   have j:=ae b
   clear b
   go_enter Tryz.func79,Tryz.ntmps79
   go_wp2_with (first
    | (go_at_call 9;refine (l.out _ h1 h2 (by omega)).mono ?_;rintro e w1 ⟨rfl,rfl⟩)
    | (refine gF rfl (.tmp 31) rfl [10,B,0,0,Y] (by have h:=sU (w.alloc (.cells #[.int .i64 0,.string ⟨#[]⟩] 94)) [10,B,0,0,Y] _ 5 rfl j.out (by omega);rw [ax] at h;exact h) ?_))
   refine aK (v:=iX 1 [10,B,0,0,Y]) (by simp [results,Tryz.results79,go_sem,iX]) rfl ⟨by rw [hk.out],((Below.refl _ w).alloc (ah _) _).alloc (by simp) _⟩
  ·have E:((n:Int)%3==1)=false:=by rw [aD];omega
   have hk:Hid (keyN n=(2,[B,X])):=ae (by unfold keyN;rw [aw i,aw o,d.out.2,m.out.2])
   have b:(#[.int .u8 ((n:Int) / 3%5),.int .u8 ((n:Int) / 15)]:Array Value).toList=u8s [B,X]:=by simp [u8s,d.out.1,m.out.1]
   have j:=ae b
   clear b
   go_enter Tryz.func79,Tryz.ntmps79
   go_wp2_with (first
    | (go_at_call 9;refine (l.out _ h1 h2 (by omega)).mono ?_;rintro e w1 ⟨rfl,rfl⟩)
    | (refine gF rfl (.tmp 38) rfl [B,X] (by have h:=sU (w.alloc (.cells #[.int .i64 0,.string ⟨#[]⟩] 94)) [B,X] _ 2 rfl j.out (by omega);rw [ax] at h;exact h) ?_))
   refine aK (v:=iX 2 [B,X]) (by simp [results,Tryz.results79,go_sem,iX]) rfl ⟨by rw [hk.out],((Below.refl _ w).alloc (ah _) _).alloc (by simp) _⟩
end Go.Proofs.YtkkfmkhbdoeglaaGreatDoor
namespace Go.Proofs.YtkkfmkhbdoeglaaGreatDoor
open Go.RowKit
def sA (n:Nat):UInt8:=if n=0 then 0 else if n=1 then 6 else 17
def sJ (c d:Int):OpB :=
 let k:=keyN (ji c 60).toNat
 let n:=(ji d 40).toNat
 if n%4=0 then ⟨2,k.1,k.2,[]⟩
 else if k.1=2 then ⟨1,k.1,k.2,[sA (n%3),UInt8.ofNat (n / 3%2)]⟩
 else ⟨1,k.1,k.2,[1,UInt8.ofNat n,0,9]⟩
theorem xI:∀ n,n<60→0≤(keyN n).1∧(keyN n).1<3∧iw (keyN n).1 (keyN n).2=true:=by decide +kernel
theorem EL:∀ n,n<40→¬n%4=0→gG 2 [sA (n%3),UInt8.ofNat (n / 3%2)]=true∧gG 0 [1,UInt8.ofNat n,0,9]=true∧gG 1 [1,UInt8.ofNat n,0,9]=true:=by decide +kernel
theorem vT (c d:Int) (m:List K) (h:m.contains ((sJ c d).table,(sJ c d).key)=false):ij (sJ c d) m=0:=by
 obtain ⟨q,r⟩:=iP c 60 (by omega)
 obtain ⟨s,u⟩:=iP d 40 (by omega)
 obtain ⟨b,i,j⟩:=xI (ji c 60).toNat (by omega)
 have o:=EL (ji d 40).toNat (by omega)
 unfold sJ at h⊢
 simp only at h⊢
 by_cases h4:(ji d 40).toNat%4=0
 ·rw [aF h4] at h⊢
  exact lC (.inr rfl) b i j h rfl
 ·obtain ⟨v1,v2,v3⟩:=o h4
  rw [aw h4] at h⊢
  by_cases l:(keyN (ji c 60).toNat).1=2
  ·rw [aF l] at h⊢
   refine lC (.inl rfl) b i j h ?_
   unfold od
   simp only [l]
   exact v1
  ·rw [aw l] at h⊢
   refine lC (.inl rfl) b i j h ?_
   unfold od
   simp only
   rw [aw (by decide)]
   have:(keyN (ji c 60).toNat).1=0∨(keyN (ji c 60).toNat).1=1:=by omega
   rcases this with h | h <;> rw [h]
   ·exact v2
   ·exact v3
theorem vL (c d:Int) (w:World) (h1 : -9223372036854775808≤c) (h2:c≤9223372036854775807) (h3 : -9223372036854775808≤d) (h4:d≤9223372036854775807) :
  Calls Tryz.prog 43 #[.int .i64 c,.int .i64 d] w fun e w'=>e = .returned (yV (sJ c d))∧Below w.heap.size w w':=by
 obtain ⟨q,b2⟩:=iP c 60 (by omega)
 obtain ⟨b3,b4⟩:=iP d 40 (by omega)
 obtain ⟨k1,k2,-⟩:=xI (ji c 60).toNat (by omega)
 have hK:=fun W=>Ah c W h1 h2
 obtain ⟨T,i,hk⟩:∃ T i,keyN (ji c 60).toNat=(T,i):=⟨_,_,rfl⟩
 rw [hk] at hK k1 k2
 have Q:=ae hK
 have M:=ae (kL d 40)
 obtain ⟨n,R⟩:=fx b3
 have S:Hid (sJ c d=if n%4=0 then ⟨2,T,i,[]⟩ else if T=2 then ⟨1,T,i,[sA (n%3),UInt8.ofNat (n / 3%2)]⟩ else ⟨1,T,i,[1,UInt8.ofNat n,0,9]⟩):=ae (by
  unfold sJ
  rw [hk,R,dU])
 rw [R] at M b4
 have a2:n<40:=by omega
 clear q b2 b3 b4 R hk hK
 simp only at k1 k2
 have R0:=fL w (.cells #[.int .i64 0,.int .i64 0,.string ⟨#[]⟩,.string ⟨#[]⟩] 96)
 have u:=ae R0
 clear R0
 have x:=Nat.mod_lt n (show 4 > 0 by omega)
 by_cases l:n%4=0
 ·have ap:((n:Int)%4==0)=true:=by rw [bj];omega
  have m:Hid (sJ c d=⟨2,T,i,[]⟩):=ae (by rw [S.out,aF l])
  clear l x
  go_enter Tryz.func43,Tryz.ntmps43
  go_wp2_with fail
  refine (Q.out _).mono ?_
  rintro e w1 ⟨rfl,j⟩
  unfold iX
  have b:=ae (fK j (by simp) u.out)
  have N:=j.size
  have r0:=af _ _ 0 _ _ _ b.out
  have r1:=af _ _ 1 _ _ _ b.out
  have r2:=af _ _ 2 _ _ _ b.out
  have r3:=af _ _ 3 _ _ _ b.out
  have z0:=ao _ _ 0 _ _ b.out
  have z1:=ao _ _ 1 _ _ b.out
  have z2:=ao _ _ 2 _ _ b.out
  have z3:=ao _ _ 3 _ _ b.out
  have O:=fI b.out
  have q:Below w.heap.size w w1:=((Below.refl _ w).alloc (ah _) _).trans (j.mono (by simp))
  go_wp2_with (go_at_call 9;refine (M.out _ h3 h4 (by omega)).mono ?_;rintro e w2 ⟨rfl,rfl⟩)
  have X:=y6 b.out (.int .i64 2) (.int .i64 T) (.string ⟨i.toArray⟩) (.string ⟨[].toArray⟩)
  have o:=pn q w.heap.size (.int .i64 2) (.int .i64 T) (.string ⟨i.toArray⟩) (.string ⟨[].toArray⟩) (ah _)
  unfold uv at X o
  obtain ⟨y,B,C,D⟩:=X
  have E:=gr (.cells #[.int .i64 2,.int .i64 T,.string ⟨i.toArray⟩,.string ⟨#[]⟩] 96) (y)
  have F:=gr (.cells #[.int .i64 2,.int .i64 T,.string ⟨i.toArray⟩,.string ⟨#[]⟩] 96) (B)
  have G:=gr (.cells #[.int .i64 2,.int .i64 T,.string ⟨i.toArray⟩,.string ⟨#[]⟩] 96) (C)
  have I:=gr (.cells #[.int .i64 2,.int .i64 T,.string ⟨i.toArray⟩,.string ⟨#[]⟩] 96) (D)
  refine aK (v:=yV ⟨2,T,i,[]⟩) (by simp [results,Tryz.results43,go_sem,yV,E,F,G,I]) rfl ⟨by rw [m.out],?_⟩
  exact (o).al _
 ·have ap:((n:Int)%4==0)=false:=by rw [aD];omega
  by_cases s:T=2
  ·have a0:(T==2)=true:=by rw [bj];exact s
   have a3:=Nat.mod_lt n (show 3 > 0 by omega)
   obtain ⟨Z,U⟩:∃ Z:UInt8,(∀ w,(Instr.index 9 (.string ⟨[0,6,17].toArray⟩) (.int .i64 ((n:Int)%3))).run Tryz.prog w = .ok (.int .u8 Z.toNat) w)∧Z=sA (n%3):=by
    refine ⟨sA (n%3),fun w=>iF Tryz.underlying9 _ _ _ _ (by omega) ?_ w,rfl⟩
    rw [show ((n:Int)%3).toNat=n%3 by omega]
    have:n%3=0∨n%3=1∨n%3=2:=by omega
    rcases this with h | h | h <;> rw [h] <;> rfl
   obtain ⟨Y,r⟩:∃ Y:UInt8,(Y.toNat:Int)=(n:Int) / 3%2∧Y=UInt8.ofNat (n / 3%2):=⟨UInt8.ofNat (n / 3%2),by simp;omega,rfl⟩
   have m:Hid (sJ c d=⟨1,T,i,[Z,Y]⟩):=ae (by rw [S.out,aw l,aF s,U.2,r.2])
   have a4:=U.1
   have a5:=Z.toNat_lt
   have J:(#[.int .u8 (Z.toNat:Int),.int .u8 ((n:Int) / 3%2)]:Array Value).toList=u8s [Z,Y]:=by simp [u8s,r.1]
   have V:=ae J
   clear J U r s l x
   go_enter Tryz.func43,Tryz.ntmps43
   go_wp2_with fail
   refine (Q.out _).mono ?_
   rintro e w1 ⟨rfl,j⟩
   unfold iX
   have b:=ae (fK j (by simp) u.out)
   have N:=j.size
   have r0:=af _ _ 0 _ _ _ b.out
   have r1:=af _ _ 1 _ _ _ b.out
   have r2:=af _ _ 2 _ _ _ b.out
   have r3:=af _ _ 3 _ _ _ b.out
   have z0:=ao _ _ 0 _ _ b.out
   have z1:=ao _ _ 1 _ _ b.out
   have z2:=ao _ _ 2 _ _ b.out
   have z3:=ao _ _ 3 _ _ b.out
   have O:=fI b.out
   have q:Below w.heap.size w w1:=((Below.refl _ w).alloc (ah _) _).trans (j.mono (by simp))
   go_wp2_with (first
    | (go_at_call 9;refine (M.out _ h3 h4 (by omega)).mono ?_;rintro e w2 ⟨rfl,rfl⟩)
    | (refine gF rfl (.tmp 34) rfl [Z,Y] (by have h:=sU (w1.alloc (.cells #[.int .i64 1,.int .i64 T,.string ⟨i.toArray⟩,.string ⟨#[]⟩] 96)) [Z,Y] _ 2 rfl V.out (by omega);rw [ax] at h;exact h) ?_))
   have X:=y6 b.out (.int .i64 1) (.int .i64 T) (.string ⟨i.toArray⟩) (.string ⟨[Z,Y].toArray⟩)
   have o:=pn q w.heap.size (.int .i64 1) (.int .i64 T) (.string ⟨i.toArray⟩) (.string ⟨[Z,Y].toArray⟩) (ah _)
   unfold uv at X o
   obtain ⟨y,B,C,D⟩:=X
   have E:=gr (.cells #[.int .u8 (Z.toNat:Int),.int .u8 ((n:Int) / 3%2)] 5) (gr (.cells #[.int .i64 1,.int .i64 T,.string ⟨i.toArray⟩,.string ⟨[Z,Y].toArray⟩] 96) (y))
   have F:=gr (.cells #[.int .u8 (Z.toNat:Int),.int .u8 ((n:Int) / 3%2)] 5) (gr (.cells #[.int .i64 1,.int .i64 T,.string ⟨i.toArray⟩,.string ⟨[Z,Y].toArray⟩] 96) (B))
   have G:=gr (.cells #[.int .u8 (Z.toNat:Int),.int .u8 ((n:Int) / 3%2)] 5) (gr (.cells #[.int .i64 1,.int .i64 T,.string ⟨i.toArray⟩,.string ⟨[Z,Y].toArray⟩] 96) (C))
   have I:=gr (.cells #[.int .u8 (Z.toNat:Int),.int .u8 ((n:Int) / 3%2)] 5) (gr (.cells #[.int .i64 1,.int .i64 T,.string ⟨i.toArray⟩,.string ⟨[Z,Y].toArray⟩] 96) (D))
   refine aK (v:=yV ⟨1,T,i,[Z,Y]⟩) (by simp [results,Tryz.results43,go_sem,yV,E,F,G,I]) rfl ⟨by rw [m.out],?_⟩
   exact ((o).al _).al _
  ·have a0:(T==2)=false:=by rw [aD];exact s
   obtain ⟨Y,r⟩:∃ Y:UInt8,(Y.toNat:Int)=(n:Int)∧Y=UInt8.ofNat n:=⟨UInt8.ofNat n,by simp;omega,rfl⟩
   have m:Hid (sJ c d=⟨1,T,i,[1,Y,0,9]⟩):=ae (by rw [S.out,aw l,aw s,r.2])
   have J:(#[.int .u8 1,.int .u8 (n:Int),.int .u8 0,.int .u8 9]:Array Value).toList=u8s [1,Y,0,9]:=by simp [u8s,r.1]
   have V:=ae J
   clear J r s l x
   go_enter Tryz.func43,Tryz.ntmps43
   go_wp2_with fail
   refine (Q.out _).mono ?_
   rintro e w1 ⟨rfl,j⟩
   unfold iX
   have b:=ae (fK j (by simp) u.out)
   have N:=j.size
   have r0:=af _ _ 0 _ _ _ b.out
   have r1:=af _ _ 1 _ _ _ b.out
   have r2:=af _ _ 2 _ _ _ b.out
   have r3:=af _ _ 3 _ _ _ b.out
   have z0:=ao _ _ 0 _ _ b.out
   have z1:=ao _ _ 1 _ _ b.out
   have z2:=ao _ _ 2 _ _ b.out
   have z3:=ao _ _ 3 _ _ b.out
   have O:=fI b.out
   have q:Below w.heap.size w w1:=((Below.refl _ w).alloc (ah _) _).trans (j.mono (by simp))
   go_wp2_with (first
    | (go_at_call 9;refine (M.out _ h3 h4 (by omega)).mono ?_;rintro e w2 ⟨rfl,rfl⟩)
    | (refine gF rfl (.tmp 14) rfl [1,Y,0,9] (by have h:=sU (w1.alloc (.cells #[.int .i64 1,.int .i64 T,.string ⟨i.toArray⟩,.string ⟨#[]⟩] 96)) [1,Y,0,9] _ 4 rfl V.out (by omega);rw [ax] at h;exact h) ?_))
   have X:=y6 b.out (.int .i64 1) (.int .i64 T) (.string ⟨i.toArray⟩) (.string ⟨[1,Y,0,9].toArray⟩)
   have o:=pn q w.heap.size (.int .i64 1) (.int .i64 T) (.string ⟨i.toArray⟩) (.string ⟨[1,Y,0,9].toArray⟩) (ah _)
   unfold uv at X o
   obtain ⟨y,B,C,D⟩:=X
   have E:=gr (.cells #[.int .u8 1,.int .u8 (n:Int),.int .u8 0,.int .u8 9] 5) (gr (.cells #[.int .i64 1,.int .i64 T,.string ⟨i.toArray⟩,.string ⟨[1,Y,0,9].toArray⟩] 96) (y))
   have F:=gr (.cells #[.int .u8 1,.int .u8 (n:Int),.int .u8 0,.int .u8 9] 5) (gr (.cells #[.int .i64 1,.int .i64 T,.string ⟨i.toArray⟩,.string ⟨[1,Y,0,9].toArray⟩] 96) (B))
   have G:=gr (.cells #[.int .u8 1,.int .u8 (n:Int),.int .u8 0,.int .u8 9] 5) (gr (.cells #[.int .i64 1,.int .i64 T,.string ⟨i.toArray⟩,.string ⟨[1,Y,0,9].toArray⟩] 96) (C))
   have I:=gr (.cells #[.int .u8 1,.int .u8 (n:Int),.int .u8 0,.int .u8 9] 5) (gr (.cells #[.int .i64 1,.int .i64 T,.string ⟨i.toArray⟩,.string ⟨[1,Y,0,9].toArray⟩] 96) (D))
   refine aK (v:=yV ⟨1,T,i,[1,Y,0,9]⟩) (by simp [results,Tryz.results43,go_sem,yV,E,F,G,I]) rfl ⟨by rw [m.out],?_⟩
   exact ((o).al _).al _
end Go.Proofs.YtkkfmkhbdoeglaaGreatDoor
