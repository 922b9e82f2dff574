/- A part of what is proved here: lemmas and contracts of single functions. No condition but those that each names. -/
import Derived.Test.YtkkfmkhbdoeglabGreatDoorG00
import Derived.Test.YtkkfmkhbdoeglabGreatDoorG09
import Derived.Test.YtkkfmkhbdoeglabGreatDoorG15
namespace Go.Proofs.YtkkfmkhbdoeglabGreatDoor
open Go.RowKit
def Jt (S:List E):Prop:=∀ x∈S,0≤x.1.1∧x.1.1<256∧x.1.2.length≤100∧x.2.length≤100
end Go.Proofs.YtkkfmkhbdoeglabGreatDoor
