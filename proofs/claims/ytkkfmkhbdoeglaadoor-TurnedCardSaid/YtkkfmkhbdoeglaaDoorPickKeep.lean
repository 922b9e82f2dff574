/- A walk of package overlaykeep's pick. No condition. -/
import Derived.Test.YtkkfmkhbdoeglaaDoorPick
namespace Go.Proofs.YtkkfmkhbdoeglaaDoor
open Go.RowKit

theorem keepPick_any (c n : Int) (w : World) (h1 : -9223372036854775808 ≤ c) (h2 : c ≤ 9223372036854775807) (hn : 1 ≤ n) :
    Calls Tryd.prog 14 #[.int .i64 c, .int .i64 n] w fun e w' => e = .returned (.int .i64 (pickN c n)) ∧ w = w' := by
  have hn0 : (n == 0) = false := by rw [beq_eq_false_iff_ne]; omega
  by_cases hc : c < 0
  · have HP : Hid (pickN c n = (-(c + 1)) % n) := Lib.hid (by unfold pickN; rw [if_pos hc])
    go_enter Tryd.func14, Tryd.ntmps14
    go_wp2
    go_ret
    exact ⟨by rw [HP.out]; exact congrArg (fun x => Ending.returned (.int .i64 x)) (by rw [← Int.neg_tmod, Int.tmod_eq_emod_of_nonneg (by omega)]), rfl⟩
  · have HP : Hid (pickN c n = c % n) := Lib.hid (by unfold pickN; rw [if_neg hc])
    go_enter Tryd.func14, Tryd.ntmps14
    go_wp2
    go_ret
    exact ⟨by rw [HP.out]; rfl, rfl⟩

end Go.Proofs.YtkkfmkhbdoeglaaDoor
