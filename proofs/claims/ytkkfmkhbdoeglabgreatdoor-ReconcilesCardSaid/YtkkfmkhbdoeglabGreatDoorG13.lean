/- A part of what is proved here: lemmas and contracts of single functions. No condition but those that each names. -/
import Derived.Test.YtkkfmkhbdoeglabGreatDoorG02
import Derived.Test.YtkkfmkhbdoeglabGreatDoorG09
namespace Go.Proofs.YtkkfmkhbdoeglabGreatDoor
open Go.RowKit
theorem wrongFrom_none_at : ∀ (os : List OpB) (i : Nat) (ks : List K) (_ : wrongFrom i ks os = none) (k : Nat) (hk : k < os.length), ∃ ks', opWrong os[k] ks' = 0
  | o :: os, i, ks, h, 0, hk => by
    unfold wrongFrom at h
    split at h
    · rename_i h0; exact ⟨ks, h0⟩
    · cases h
  | o :: os, i, ks, h, k + 1, hk => by
    unfold wrongFrom at h
    split at h
    · exact wrongFrom_none_at os _ _ h k (by simpa using hk)
    · cases h
end Go.Proofs.YtkkfmkhbdoeglabGreatDoor
