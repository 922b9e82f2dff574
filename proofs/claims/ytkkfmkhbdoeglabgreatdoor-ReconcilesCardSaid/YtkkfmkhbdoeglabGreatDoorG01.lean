/- A part of what is proved here: lemmas and contracts of single functions. No condition but those that each names. -/
namespace Go.Proofs.YtkkfmkhbdoeglabGreatDoor
/-- one halving -/
def stepC (c : Nat) : Nat := if c % 2 = 1 then (c / 2) ^^^ 3988292384 else c / 2
def stepN : Nat → Nat → Nat
  | 0, c => c
  | n + 1, c => stepC (stepN n c)
/-- the sum's state behind some bytes -/
def crcFrom (c : Nat) (l : List UInt8) : Nat := l.foldl (fun c x => stepN 8 (c ^^^ x.toNat)) c
def crc (l : List UInt8) : Nat := crcFrom 4294967295 l ^^^ 4294967295
end Go.Proofs.YtkkfmkhbdoeglabGreatDoor
