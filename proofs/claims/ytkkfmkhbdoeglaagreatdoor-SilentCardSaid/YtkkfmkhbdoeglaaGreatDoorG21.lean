/- A part of what is proved here: lemmas and contracts of single functions. No condition but those that each names. -/
import Derived.Test.YtkkfmkhbdoeglaaGreatDoorG00
import Derived.Test.YtkkfmkhbdoeglaaGreatDoorG13
import Derived.Test.YtkkfmkhbdoeglaaGreatDoorG19
import Derived.Test.YtkkfmkhbdoeglaaGreatDoorG20
namespace Go.Proofs.YtkkfmkhbdoeglaaGreatDoor
open Go.RowKit
def Hc (S:List E):Prop:=∀ x∈S,0≤x.1.1∧x.1.1<256∧x.1.2.length≤100∧x.2.length≤100
end Go.Proofs.YtkkfmkhbdoeglaaGreatDoor
