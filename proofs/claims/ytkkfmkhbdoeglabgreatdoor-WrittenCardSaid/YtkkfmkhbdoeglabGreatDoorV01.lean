/- Lemmas of the proof. No condition. -/
import Derived.Test.YtkkfmkhbdoeglabGreatDoorV00
namespace Go.Proofs.YtkkfmkhbdoeglabGreatDoor
def rS(c:Nat):Nat:=if c%2=1 then(c / 2) ^^^ 3988292384 else c / 2
def nl:Nat->Nat->Nat
 | 0,c=>c
 | n+1,c=>rS (nl n c)
theorem N8(a b:Nat):(a ^^^ b) / 2=(a / 2) ^^^ (b / 2):=by apply Nat.eq_of_testBit_eq;intro i;simp[Nat.testBit_div_two]
theorem O3(a b:Nat):(a ^^^ b)%2=(a%2+b%2)%2:=by have h:=Nat.testBit_xor a b 0;simp only[Nat.testBit_zero]at h;rcases de a with ha|ha<;>rcases de b with d|d<;>rcases de (a ^^^ b)with hc|hc<;>simp_all
theorem PZ(a b c:Nat):a ^^^ (b ^^^ c)=b ^^^ (a ^^^ c):=by rw[<-gi,Nat.xor_comm a b,gi]
theorem LY(a b:Nat):rS (a ^^^ b)=rS a ^^^ rS b:=by unfold rS;rw[O3,N8];rcases de a with ha|ha<;>rcases de b with d|d<;>simp[ha,d,gi,Nat.xor_comm,PZ]
theorem LZ(n a b:Nat):nl n (a ^^^ b)=nl n a ^^^ nl n b:=by
 induction n with
 | zero=>rfl
 | succ n ih=>simp only[nl,ih,LY]
theorem Ff(a:Nat):rS (2*a)=a:=by unfold rS;rw[af (by omega)];omega
theorem Hg(n a:Nat):nl n (2^n*a)=a:=by
 induction n generalizing a with
 | zero=>simp[nl]
 | succ n ih=>
  have h:2^(n+1)*a=2^n*(2*a):=by rw[Nat.pow_succ,Nat.mul_assoc]
  rw[nl,h,ih,Ff]
theorem NM(c:Nat)(h:c<4294967296):rS c<4294967296:=by
 unfold rS;split
 .exact fc (n:=32) (by omega) (by decide)
 .omega
theorem ye(n c:Nat)(h:c<4294967296):nl n c<4294967296:=by
 induction n with
 | zero=>exact h
 | succ n ih=>exact NM _ ih
theorem NK(c:Nat):c=(c%256) ^^^ (256*(c / 256)):=by
 have h:c=2^8*(c / 256)+c%256:=by omega
 have d:=Nat.two_pow_add_eq_or_of_lt (i:=8) (b:=c%256) (by omega) (c / 256);have j:2^8*(c / 256) ||| c%256=2^8*(c / 256) ^^^ c%256:=by
  apply Nat.eq_of_testBit_eq;intro i;rw[Nat.testBit_or,Nat.testBit_xor];by_cases l:i<8
  .have:(2^8*(c / 256)).testBit i=false:=by rw[Nat.testBit_two_pow_mul];simp;omega
   simp[this]
  .have:(c%256).testBit i=false:=Nat.testBit_lt_two_pow (ae (show c%256<2^8 by omega) (dU (by decide) (by omega)));simp[this]
 rw[Nat.xor_comm];exact h.trans (d.trans j)
theorem KQ(c x:Nat):nl 8 (c ^^^ x)=nl 8 ((c%256) ^^^ x) ^^^ (c / 256):=by
 conv=>lhs;rw[NK c]
 rw[show c%256 ^^^ 256*(c / 256) ^^^ x=(c%256 ^^^ x) ^^^ (2^8*(c / 256)) by rw[gi,Nat.xor_comm (256*(c / 256)) x,<-gi]];rw[LZ,Hg]
def nT(c:Nat)(l:gw):Nat:=l.foldl (fun c x=>nl 8 (c ^^^ x.toNat)) c
def Cp(l:gw):Nat:=nT 4294967295 l ^^^ 4294967295
theorem wL(l:gw):∀c,c<4294967296->nT c l<4294967296:=by
 induction l with
 | nil=>intro c h;exact h
 | cons x l ih=>intro c h;exact ih _ (ye 8 _ (fc (n:=32) (by omega) (by have:=x.toNat_lt;omega)))
theorem Ev(l:gw):Cp l<4294967296:=fc (n:=32) (wL l _ (by decide)) (by decide)
theorem Eu(c:Nat)(l:gw)(x:UInt8):nT c (l++[x])=nl 8 (nT c l ^^^ x.toNat):=by simp[nT]
end Go.Proofs.YtkkfmkhbdoeglabGreatDoor
