/- A part of what is proved here: lemmas and contracts of single functions. No condition but those that each names. -/
import Derived.Test.YtkkfmkhbdoeglabGreatDoorG21
namespace Go.Proofs.YtkkfmkhbdoeglabGreatDoor
open Go.RowKit
theorem lawPick_any (c n : Int) (w : World) (h1 : -9223372036854775808 ≤ c) (h2 : c ≤ 9223372036854775807) (hn : 1 ≤ n) :
    Calls Tryz.prog 22 #[.int .i64 c, .int .i64 n] w fun e w' => e = .returned (.int .i64 (pickN c n)) ∧ w = w' := by
  have hn0 : (n == 0) = false := by rw [beq_eq_false_iff_ne]; omega
  by_cases hc : c < 0
  · have HP : Hid (pickN c n = (-(c + 1)) % n) := Lib.hid (by unfold pickN; rw [if_pos hc])
    go_enter Tryz.func22, Tryz.ntmps22
    go_wp2
    go_ret
    exact ⟨by rw [HP.out]; exact congrArg (fun x => Ending.returned (.int .i64 x)) (by rw [← Int.neg_tmod, Int.tmod_eq_emod_of_nonneg (by omega)]), rfl⟩
  · have HP : Hid (pickN c n = c % n) := Lib.hid (by unfold pickN; rw [if_neg hc])
    go_enter Tryz.func22, Tryz.ntmps22
    go_wp2
    go_ret
    exact ⟨by rw [HP.out]; rfl, rfl⟩
set_option maxRecDepth 100000 in
theorem same_true (k n : Int) (w : World) :
    Calls Tryz.prog 21 #[faultV k n 0, .agg #[.int .i64 k, .int .i64 n]] w fun e w' => e = .returned (.bool true) ∧ Below w.heap.size w w' := by
  unfold faultV
  have h1 : (k == k) = true := beq_self_eq_true k
  have h2 : (n == n) = true := beq_self_eq_true n
  go_enter Tryz.func21, Tryz.ntmps21
  go_wp2
  go_ret
  exact ⟨rfl, ((Below.refl _ w).alloc (Nat.le_refl _) _).alloc (by simp) _⟩
end Go.Proofs.YtkkfmkhbdoeglabGreatDoor
