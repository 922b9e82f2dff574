/- A part of what is proved here: lemmas and contracts of single functions. No condition but those that each names. -/
import Derived.Test.YtkkfmkhbdoeglabGreatDoorG16
import Derived.Test.YtkkfmkhbdoeglabGreatDoorG21
import Derived.Test.YtkkfmkhbdoeglabGreatDoorG28
namespace Go.Proofs.YtkkfmkhbdoeglabGreatDoor
open Go.RowKit Go.Shelf
attribute [local go_sem] Oper.semAt_some
end Go.Proofs.YtkkfmkhbdoeglabGreatDoor
namespace Go.Proofs.YtkkfmkhbdoeglabGreatDoor
open Go.RowKit
/-- tables and a list that read alike -/
structure LookAt (w : World) (fb q r : Nat) (v : Value) (S : List E) : Prop where
  t : FoldAt w fb q r S
  l : EntsAt w v S
theorem LookAt.below {w w' : World} {fb q r : Nat} {v : Value} {S : List E} (h : LookAt w fb q r v S) (hb : Below w.heap.size w w') : LookAt w' fb q r v S := ⟨h.t.below hb, SliceAt.below h.l hb⟩
end Go.Proofs.YtkkfmkhbdoeglabGreatDoor
