/- The contracts of package plain's (*Folded).Entries and (*Folded).Size. No condition. -/
import Derived.Test.YtkkfmkhbdoeglaaGreatDoorListed1
import Derived.Test.YtkkfmkhbdoeglaaGreatDoorTabApply
import Derived.Test.YtkkfmkhbdoeglaaGreatDoorSize
namespace Go.Proofs.YtkkfmkhbdoeglaaGreatDoor
open Go.RowKit Go.Shelf

theorem entsFn_any (q off : Nat) (w : World) : Calls Tryz.prog 49 #[.pointer (some ⟨q, off, none⟩)] w fun e w' =>
    e = .returned (.func (.func 90) #[] #[.pointer (some ⟨w.heap.size, 0, none⟩)]) ∧ w' = w.alloc (.cells #[.pointer (some ⟨q, off, none⟩)] 173) := by
  go_enter Tryz.func49, Tryz.ntmps49
  go_wp2
  go_ret
  exact ⟨rfl, rfl⟩
theorem foldedEntries_any (fb q r : Nat) (S : List E) (w : World) (he : FoldAt w fb q r S) (hS : S.length ≤ 1000000000) :
    Calls Tryz.prog 24 #[.pointer (some ⟨fb, 0, none⟩)] w fun e w' => ∃ v, e = .returned (.tuple #[v, .bool true]) ∧ EntsAt w' v S ∧ Below w.heap.size w w' := by
  have hc := he.cell
  have hc2 := he.ent.cell
  have hb : Below w.heap.size w (w.alloc (.cells #[.pointer (some ⟨q, 0, none⟩)] 173)) := (Below.refl _ w).alloc (Nat.le_refl _) _
  have HL := Lib.hid (listed_any w.heap.size q 0 r S (w.alloc (.cells #[.pointer (some ⟨q, 0, none⟩)] 173)) (by simp) (cell_of_row _ _ 0 _ _ _ (heap_new w _)) (he.below hb).ent hS)
  clear he
  go_enter Tryz.func24, Tryz.ntmps24
  go_wp2_with fail
  refine (entsFn_any q 0 w).mono ?_
  rintro e w1 ⟨rfl, rfl⟩
  go_wp2_with fail
  refine HL.out.mono ?_
  rintro e w2 ⟨v, rfl, hv, hb2⟩
  clear hc hc2 HL
  go_wp2
  go_ret2
  exact ⟨v, rfl, hv, hb.trans (hb2.mono hb.size)⟩
theorem foldedSize_any (fb q r : Nat) (S : List E) (w : World) (he : FoldAt w fb q r S) (hsz : sizeS S ≤ 4611686018427387904) :
    Calls Tryz.prog 64 #[.pointer (some ⟨fb, 0, none⟩)] w fun e w' => e = .returned (.int .i64 ((sizeS S : Nat) : Int)) ∧ Below w.heap.size w w' := by
  have hc := he.cell
  have hc2 := he.ent.cell
  have HL := Lib.hid (size_any q 0 r S w he.ent hsz)
  clear he
  go_enter Tryz.func64, Tryz.ntmps64
  go_wp2_with fail
  refine HL.out.mono ?_
  rintro e w2 ⟨rfl, hb2⟩
  clear hc hc2 HL
  go_wp2
  go_ret
  exact ⟨rfl, hb2⟩
end Go.Proofs.YtkkfmkhbdoeglaaGreatDoor
