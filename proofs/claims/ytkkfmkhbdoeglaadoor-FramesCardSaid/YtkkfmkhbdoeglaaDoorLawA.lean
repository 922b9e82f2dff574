/- Walks of the law's small functions: pick, same, unsealed; and of Frames. -/
import Derived.Test.YtkkfmkhbdoeglaaDoorRefA
namespace Go.Proofs.YtkkfmkhbdoeglaaDoor
open Go.RowKit

/-- which of n things a raw number speaks of -/
def pickN (c n : Int) : Int := if c < 0 then (-(c + 1)) % n else c % n
theorem pickN_bound (c n : Int) (hn : 0 < n) : 0 ≤ pickN c n ∧ pickN c n < n := by
  unfold pickN
  split
  · exact ⟨Int.emod_nonneg _ (by omega), Int.emod_lt_of_pos _ hn⟩
  · exact ⟨Int.emod_nonneg _ (by omega), Int.emod_lt_of_pos _ hn⟩
theorem lawPick_any (c n : Int) (w : World) (h1 : -9223372036854775808 ≤ c) (h2 : c ≤ 9223372036854775807) (hn : 1 ≤ n) :
    Calls Tryd.prog 11 #[.int .i64 c, .int .i64 n] w fun e w' => e = .returned (.int .i64 (pickN c n)) ∧ w = w' := by
  have hn0 : (n == 0) = false := by rw [beq_eq_false_iff_ne]; omega
  by_cases hc : c < 0
  · have HP : Hid (pickN c n = (-(c + 1)) % n) := Lib.hid (by unfold pickN; rw [if_pos hc])
    go_enter Tryd.func11, Tryd.ntmps11
    go_wp2
    go_ret
    exact ⟨by rw [HP.out]; exact congrArg (fun x => Ending.returned (.int .i64 x)) (by rw [← Int.neg_tmod, Int.tmod_eq_emod_of_nonneg (by omega)]), rfl⟩
  · have HP : Hid (pickN c n = c % n) := Lib.hid (by unfold pickN; rw [if_neg hc])
    go_enter Tryd.func11, Tryd.ntmps11
    go_wp2
    go_ret
    exact ⟨by rw [HP.out]; rfl, rfl⟩

set_option maxRecDepth 100000 in
theorem same_true (k n : Int) (w : World) :
    Calls Tryd.prog 34 #[faultV k n 0, .agg #[.int .i64 k, .int .i64 n]] w fun e w' => e = .returned (.bool true) ∧ Below w.heap.size w w' := by
  unfold faultV
  have h1 : (k == k) = true := beq_self_eq_true k
  have h2 : (n == n) = true := beq_self_eq_true n
  go_enter Tryd.func34, Tryd.ntmps34
  go_wp2
  go_ret
  exact ⟨rfl, ((Below.refl _ w).alloc (Nat.le_refl _) _).alloc (by simp) _⟩
set_option maxRecDepth 100000 in
set_option maxHeartbeats 400000 in
theorem unsealed_any (l : List UInt8) (w : World) (hg : ErrVar w) (hl : l.length ≤ maxB) :
    Calls Tryd.prog 13 #[.string ⟨l.toArray⟩] w fun e w' => e = .returned (.bool true) ∧ Below w.heap.size w w' := by
  obtain ⟨k, p, fk, fn, h1, h2⟩ : ∃ (k : Int) (p : List UInt8) (fk fn : Int), UnsealV l = .tuple #[.int .i64 k, .string ⟨p.toArray⟩, .agg #[.int .i64 fk, .int .i64 fn, .int .i64 0]] ∧ refUnsealV l = .tuple #[.int .i64 k, .string ⟨p.toArray⟩, .agg #[.int .i64 fk, .int .i64 fn]] := by
    unfold UnsealV refUnsealV
    cases h : unsealB l with
    | inl x => exact ⟨_, _, _, _, rfl, rfl⟩
    | inr x => exact ⟨_, _, _, _, rfl, rfl⟩
  have H1 := Lib.hid h1
  have H2 := Lib.hid h2
  clear h1 h2
  have e1 : (k == k) = true := beq_self_eq_true k
  have e2 : (p == p) = true := beq_self_eq_true p
  go_enter Tryd.func13, Tryd.ntmps13
  go_wp2_with (first
    | (go_at_call 15; refine (plainUnseal_any l _ hg hl).mono ?_; rintro e w1 ⟨rfl, hb1⟩; rw [H1.out])
    | (go_at_call 33; refine (refUnseal_any l _ hl).mono ?_; rintro e w2 ⟨rfl, hb2⟩; rw [H2.out];
        have hx : w2.heap[w1.heap.size]? = some (.cells #[.int .i64 fk, .int .i64 fn, .int .i64 0] 28 (0, 0)) := below_at hb2 (by simp) (heap_new w1 _);
        have c0 : w2.cell? ⟨w1.heap.size, 0, none⟩ = some (.int .i64 fk) := cell_of_row _ _ 0 _ _ _ hx;
        have c1 : w2.cell? ⟨w1.heap.size, 1, none⟩ = some (.int .i64 fn) := cell_of_row _ _ 1 _ _ _ hx;
        have c2 : w2.cell? ⟨w1.heap.size, 2, none⟩ = some (.int .i64 0) := cell_of_row _ _ 2 _ _ _ hx;
        have hlt : w1.heap.size < w2.heap.size := block_lt hx; clear hx)
    | (go_at_call 34; refine (same_true fk fn _).mono ?_; rintro e w3 ⟨rfl, hb3⟩))
  go_ret
  exact ⟨rfl, (((hb1.al _).tn hb2).al _).tn hb3⟩

set_option maxRecDepth 100000 in
set_option maxHeartbeats 400000 in
theorem Frames_walk (kind : Int) (body frame : List UInt8) (w : World) (hg : ErrVar w) (h1 : -9223372036854775808 ≤ kind) (h2 : kind ≤ 9223372036854775807) (hb : body.length + 5 ≤ maxB) (hf : frame.length ≤ maxB) :
    Calls Tryd.prog 3 #[.int .i64 kind, .string ⟨body.toArray⟩, .string ⟨frame.toArray⟩] w fun e w' => e = .returned (.bool true) ∧ Below w.heap.size w w' := by
  have hb' : body.length ≤ maxB := by omega
  have hsl : (sealB (byteOf (pickN kind 256)) body).length ≤ maxB := by simp [sealB]; omega
  have q1 : (sealB (byteOf 2) [] == sealB (byteOf 2) []) = true := beq_self_eq_true _
  have q2 : (sealB (byteOf (pickN kind 256)) body == sealB (byteOf (pickN kind 256)) body) = true := beq_self_eq_true _
  go_enter Tryd.func3, Tryd.ntmps3
  go_wp2_with fail
  refine (plainSeal_any 2 [] _ (Nat.zero_le _)).mono ?_
  rintro e w1 ⟨rfl, hb1⟩
  go_wp2_with fail
  refine (lawPick_any kind 256 _ h1 h2 (by decide)).mono ?_
  rintro e w2 ⟨rfl, rfl⟩
  go_wp2_with fail
  refine (plainSeal_any _ body _ hb').mono ?_
  rintro e w2 ⟨rfl, hb2⟩
  go_wp2_with fail
  refine (refSeal_any 2 [] _ (Nat.zero_le _)).mono ?_
  rintro e w3 ⟨rfl, hb3⟩
  go_wp2_with fail
  refine (lawPick_any kind 256 _ h1 h2 (by decide)).mono ?_
  rintro e w4 ⟨rfl, rfl⟩
  go_wp2_with fail
  refine (refSeal_any _ body _ hb').mono ?_
  rintro e w4 ⟨rfl, hb4⟩
  have hall4 := ((hb1.tn hb2).tn hb3).tn hb4
  go_wp2_with fail
  refine (unsealed_any _ _ (hg.new hall4) hsl).mono ?_
  rintro e w5 ⟨rfl, hb5⟩
  go_wp2_with fail
  refine (unsealed_any frame _ (hg.new (hall4.tn hb5)) hf).mono ?_
  rintro e w6 ⟨rfl, hb6⟩
  go_wp2_with fail
  go_ret
  exact ⟨rfl, (hall4.tn hb5).tn hb6⟩
end Go.Proofs.YtkkfmkhbdoeglaaDoor
