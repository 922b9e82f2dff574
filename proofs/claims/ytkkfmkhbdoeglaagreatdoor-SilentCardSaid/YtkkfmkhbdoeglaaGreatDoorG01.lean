/- A part of what is proved here: lemmas and contracts of single functions. No condition but those that each names. -/
import Derived.Test.YtkkfmkhbdoeglaaGreatDoorG00
namespace Go.Proofs.YtkkfmkhbdoeglaaGreatDoor
def oS (c:Nat):Nat:=if c%2=1 then (c / 2) ^^^ 3988292384 else c / 2
def j7:Nat→Nat→Nat
 | 0,c=>c
 | n+1,c=>oS (j7 n c)
theorem DJ (a b:Nat):(a ^^^ b) / 2=(a / 2) ^^^ (b / 2):=by
 apply Nat.eq_of_testBit_eq;intro i
 simp [Nat.testBit_div_two]
theorem Fo (a b:Nat):(a ^^^ b)%2=(a%2+b%2)%2:=by
 have h:=Nat.testBit_xor a b 0
 simp only [Nat.testBit_zero] at h
 rcases cW a with ha | ha <;> rcases cW b with d | d <;> rcases cW (a ^^^ b) with hc | hc <;> simp_all
theorem Gp (a b c:Nat):a ^^^ (b ^^^ c)=b ^^^ (a ^^^ c):=by rw [←fu,Nat.xor_comm a b,fu]
theorem Dc (a b:Nat):oS (a ^^^ b)=oS a ^^^ oS b:=by
 unfold oS
 rw [Fo,DJ]
 rcases cW a with ha | ha <;> rcases cW b with d | d <;> simp [ha,d,fu,Nat.xor_comm,Gp]
theorem CK (n a b:Nat):j7 n (a ^^^ b)=j7 n a ^^^ j7 n b:=by
 induction n with
 | zero=>rfl
 | succ n ih=>simp only [j7,ih,Dc]
theorem xL (a:Nat):oS (2*a)=a:=by unfold oS;rw [au (by omega)];omega
theorem yh (n a:Nat):j7 n (2^n*a)=a:=by
 induction n generalizing a with
 | zero=>simp [j7]
 | succ n ih =>
  have h:2^(n+1)*a=2^n*(2*a):=by rw [Nat.pow_succ,Nat.mul_assoc]
  rw [j7,h,ih,xL]
theorem D5 (c:Nat) (h:c<4294967296):oS c<4294967296:=by
 unfold oS
 split
 ·exact eW (n:=32) (by omega) (by decide)
 ·omega
theorem tu (n c:Nat) (h:c<4294967296):j7 n c<4294967296:=by
 induction n with
 | zero=>exact h
 | succ n ih=>exact D5 _ ih
theorem EJ (c:Nat):c=(c%256) ^^^ (256*(c / 256)):=by
 have h:c=2^8*(c / 256)+c%256:=by omega
 have h2:=Nat.two_pow_add_eq_or_of_lt (i:=8) (b:=c%256) (by omega) (c / 256)
 have h3:2^8*(c / 256) ||| c%256=2^8*(c / 256) ^^^ c%256:=by
  apply Nat.eq_of_testBit_eq;intro i
  rw [Nat.testBit_or,Nat.testBit_xor]
  by_cases d:i<8
  ·have:(2^8*(c / 256)).testBit i=false:=by rw [Nat.testBit_two_pow_mul];simp;omega
   simp [this]
  ·have:(c%256).testBit i=false:=Nat.testBit_lt_two_pow (ay (show c%256<2^8 by omega) (eG (by decide) (by omega)))
   simp [this]
 rw [Nat.xor_comm]
 exact h.trans (h2.trans h3)
theorem CY (c x:Nat):j7 8 (c ^^^ x)=j7 8 ((c%256) ^^^ x) ^^^ (c / 256):=by
 conv=>lhs;rw [EJ c]
 rw [show c%256 ^^^ 256*(c / 256) ^^^ x=(c%256 ^^^ x) ^^^ (2^8*(c / 256)) by
  rw [fu,Nat.xor_comm (256*(c / 256)) x,←fu]]
 rw [CK,yh]
def lK (c:Nat) (l:List UInt8):Nat:=l.foldl (fun c x=>j7 8 (c ^^^ x.toNat)) c
def BS (l:List UInt8):Nat:=lK 4294967295 l ^^^ 4294967295
theorem tU (l:List UInt8):∀ c,c<4294967296→lK c l<4294967296:=by
 induction l with
 | nil=>intro c h;exact h
 | cons x l ih =>
  intro c h
  exact ih _ (tu 8 _ (eW (n:=32) (by omega) (by have:=x.toNat_lt;omega)))
theorem EY (l:List UInt8):BS l<4294967296:=eW (n:=32) (tU l _ (by decide)) (by decide)
theorem xz (c:Nat) (l:List UInt8) (x:UInt8):lK c (l++[x])=j7 8 (lK c l ^^^ x.toNat):=by
 simp [lK,dx]
end Go.Proofs.YtkkfmkhbdoeglaaGreatDoor
