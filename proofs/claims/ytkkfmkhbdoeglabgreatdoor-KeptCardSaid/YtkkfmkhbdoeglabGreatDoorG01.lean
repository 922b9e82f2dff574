/- A part of what is proved here: lemmas and contracts of single functions. No condition but those that each names. -/
import Derived.Test.YtkkfmkhbdoeglabGreatDoorG00
namespace Go.Proofs.YtkkfmkhbdoeglabGreatDoor
def pX (c:Nat):Nat:=if c%2=1 then (c / 2) ^^^ 3988292384 else c / 2
def kY:Nat→Nat→Nat
 | 0,c=>c
 | n+1,c=>pX (kY n c)
theorem G0 (a b:Nat):(a ^^^ b) / 2=(a / 2) ^^^ (b / 2):=by
 apply Nat.eq_of_testBit_eq;intro i
 simp [Nat.testBit_div_two]
theorem Ih (a b:Nat):(a ^^^ b)%2=(a%2+b%2)%2:=by
 have h:=Nat.testBit_xor a b 0
 simp only [Nat.testBit_zero] at h
 rcases de a with ha | ha <;> rcases de b with d | d <;> rcases de (a ^^^ b) with hc | hc <;> simp_all
theorem I4 (a b c:Nat):a ^^^ (b ^^^ c)=b ^^^ (a ^^^ c):=by rw [←fN,Nat.xor_comm a b,fN]
theorem Fb (a b:Nat):pX (a ^^^ b)=pX a ^^^ pX b:=by
 unfold pX
 rw [Ih,G0]
 rcases de a with ha | ha <;> rcases de b with d | d <;> simp [ha,d,fN,Nat.xor_comm,I4]
theorem Fc (n a b:Nat):kY n (a ^^^ b)=kY n a ^^^ kY n b:=by
 induction n with
 | zero=>rfl
 | succ n ih=>simp only [kY,ih,Fb]
theorem zE (a:Nat):pX (2*a)=a:=by unfold pX;rw [au (by omega)];omega
theorem By (n a:Nat):kY n (2^n*a)=a:=by
 induction n generalizing a with
 | zero=>simp [kY]
 | succ n ih =>
  have h:2^(n+1)*a=2^n*(2*a):=by rw [Nat.pow_succ,Nat.mul_assoc]
  rw [kY,h,ih,zE]
theorem GM (c:Nat) (h:c<4294967296):pX c<4294967296:=by
 unfold pX
 split
 ·exact fD (n:=32) (by omega) (by decide)
 ·omega
theorem xf (n c:Nat) (h:c<4294967296):kY n c<4294967296:=by
 induction n with
 | zero=>exact h
 | succ n ih=>exact GM _ ih
theorem GJ (c:Nat):c=(c%256) ^^^ (256*(c / 256)):=by
 have h:c=2^8*(c / 256)+c%256:=by omega
 have h2:=Nat.two_pow_add_eq_or_of_lt (i:=8) (b:=c%256) (by omega) (c / 256)
 have h3:2^8*(c / 256) ||| c%256=2^8*(c / 256) ^^^ c%256:=by
  apply Nat.eq_of_testBit_eq;intro i
  rw [Nat.testBit_or,Nat.testBit_xor]
  by_cases d:i<8
  ·have:(2^8*(c / 256)).testBit i=false:=by rw [Nat.testBit_two_pow_mul];simp;omega
   simp [this]
  ·have:(c%256).testBit i=false:=Nat.testBit_lt_two_pow (aC (show c%256<2^8 by omega) (eX (by decide) (by omega)))
   simp [this]
 rw [Nat.xor_comm]
 exact h.trans (h2.trans h3)
theorem Ek (c x:Nat):kY 8 (c ^^^ x)=kY 8 ((c%256) ^^^ x) ^^^ (c / 256):=by
 conv=>lhs;rw [GJ c]
 rw [show c%256 ^^^ 256*(c / 256) ^^^ x=(c%256 ^^^ x) ^^^ (2^8*(c / 256)) by
  rw [fN,Nat.xor_comm (256*(c / 256)) x,←fN]]
 rw [Fc,By]
def mH (c:Nat) (l:List UInt8):Nat:=l.foldl (fun c x=>kY 8 (c ^^^ x.toNat)) c
def DJ (l:List UInt8):Nat:=mH 4294967295 l ^^^ 4294967295
theorem vN (l:List UInt8):∀ c,c<4294967296→mH c l<4294967296:=by
 induction l with
 | nil=>intro c h;exact h
 | cons x l ih =>
  intro c h
  exact ih _ (xf 8 _ (fD (n:=32) (by omega) (by have:=x.toNat_lt;omega)))
theorem FH (l:List UInt8):DJ l<4294967296:=fD (n:=32) (vN l _ (by decide)) (by decide)
theorem y7 (c:Nat) (l:List UInt8) (x:UInt8):mH c (l++[x])=kY 8 (mH c l ^^^ x.toNat):=by
 simp [mH,di]
end Go.Proofs.YtkkfmkhbdoeglabGreatDoor
