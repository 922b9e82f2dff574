/- A part of what is proved here: lemmas and contracts of single functions. No condition but those that each names. -/
import Derived.Test.YtkkfmkhbdoeglaaGreatDoorG00
namespace Go.Proofs.YtkkfmkhbdoeglaaGreatDoor
def pK (c:Nat):Nat:=if c%2=1 then (c / 2) ^^^ 3988292384 else c / 2
def kS:Nat→Nat→Nat
 | 0,c=>c
 | n+1,c=>pK (kS n c)
theorem Gl (a b:Nat):(a ^^^ b) / 2=(a / 2) ^^^ (b / 2):=by
 apply Nat.eq_of_testBit_eq;intro i
 simp [Nat.testBit_div_two]
theorem Hd (a b:Nat):(a ^^^ b)%2=(a%2+b%2)%2:=by
 have h:=Nat.testBit_xor a b 0
 simp only [Nat.testBit_zero] at h
 rcases de a with ha | ha <;> rcases de b with d | d <;> rcases de (a ^^^ b) with hc | hc <;> simp_all
theorem IA (a b c:Nat):a ^^^ (b ^^^ c)=b ^^^ (a ^^^ c):=by rw [←fH,Nat.xor_comm a b,fH]
theorem Ex (a b:Nat):pK (a ^^^ b)=pK a ^^^ pK b:=by
 unfold pK
 rw [Hd,Gl]
 rcases de a with ha | ha <;> rcases de b with d | d <;> simp [ha,d,fH,Nat.xor_comm,IA]
theorem Ey (n a b:Nat):kS n (a ^^^ b)=kS n a ^^^ kS n b:=by
 induction n with
 | zero=>rfl
 | succ n ih=>simp only [kS,ih,Ex]
theorem zc (a:Nat):pK (2*a)=a:=by unfold pK;rw [aw (by omega)];omega
theorem AU (n a:Nat):kS n (2^n*a)=a:=by
 induction n generalizing a with
 | zero=>simp [kS]
 | succ n ih =>
  have h:2^(n+1)*a=2^n*(2*a):=by rw [Nat.pow_succ,Nat.mul_assoc]
  rw [kS,h,ih,zc]
theorem F8 (c:Nat) (h:c<4294967296):pK c<4294967296:=by
 unfold pK
 split
 ·exact fw (n:=32) (by omega) (by decide)
 ·omega
theorem wE (n c:Nat) (h:c<4294967296):kS n c<4294967296:=by
 induction n with
 | zero=>exact h
 | succ n ih=>exact F8 _ ih
theorem F0 (c:Nat):c=(c%256) ^^^ (256*(c / 256)):=by
 have h:c=2^8*(c / 256)+c%256:=by omega
 have h2:=Nat.two_pow_add_eq_or_of_lt (i:=8) (b:=c%256) (by omega) (c / 256)
 have h3:2^8*(c / 256) ||| c%256=2^8*(c / 256) ^^^ c%256:=by
  apply Nat.eq_of_testBit_eq;intro i
  rw [Nat.testBit_or,Nat.testBit_xor]
  by_cases d:i<8
  ·have:(2^8*(c / 256)).testBit i=false:=by rw [Nat.testBit_two_pow_mul];simp;omega
   simp [this]
  ·have:(c%256).testBit i=false:=Nat.testBit_lt_two_pow (aC (show c%256<2^8 by omega) (eR (by decide) (by omega)))
   simp [this]
 rw [Nat.xor_comm]
 exact h.trans (h2.trans h3)
theorem DD (c x:Nat):kS 8 (c ^^^ x)=kS 8 ((c%256) ^^^ x) ^^^ (c / 256):=by
 conv=>lhs;rw [F0 c]
 rw [show c%256 ^^^ 256*(c / 256) ^^^ x=(c%256 ^^^ x) ^^^ (2^8*(c / 256)) by
  rw [fH,Nat.xor_comm (256*(c / 256)) x,←fH]]
 rw [Ey,AU]
def mn (c:Nat) (l:List UInt8):Nat:=l.foldl (fun c x=>kS 8 (c ^^^ x.toNat)) c
def Db (l:List UInt8):Nat:=mn 4294967295 l ^^^ 4294967295
theorem vq (l:List UInt8):∀ c,c<4294967296→mn c l<4294967296:=by
 induction l with
 | nil=>intro c h;exact h
 | cons x l ih =>
  intro c h
  exact ih _ (wE 8 _ (fw (n:=32) (by omega) (by have:=x.toNat_lt;omega)))
theorem E3 (l:List UInt8):Db l<4294967296:=fw (n:=32) (vq l _ (by decide)) (by decide)
theorem yw (c:Nat) (l:List UInt8) (x:UInt8):mn c (l++[x])=kS 8 (mn c l ^^^ x.toNat):=by
 simp [mn]
end Go.Proofs.YtkkfmkhbdoeglaaGreatDoor
