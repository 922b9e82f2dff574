/- A part of what is proved here: lemmas and contracts of single functions. No condition but those that each names. -/
import Derived.Test.YtkkfmkhbdoeglabGreatDoorG04
import Derived.Test.YtkkfmkhbdoeglabGreatDoorG08
namespace Go.Proofs.YtkkfmkhbdoeglabGreatDoor
open Go.RowKit
theorem refSizes_any (t : Int) (w : World) (h0 : 0 ≤ t) (h2 : t < 3) :
    Calls Tryz.prog 181 #[.int .i64 t] w fun e w' => e = .returned (.tuple #[.int .i64 (keyLen t), .int .i64 (valLen t)]) ∧ w = w' := by
  have : t = 0 ∨ t = 1 ∨ t = 2 := by omega
  rcases this with rfl | rfl | rfl
  all_goals
    go_enter Tryz.func181, Tryz.ntmps181
    go_wp2
    go_ret2
    exact ⟨rfl, rfl⟩
theorem refIsVersion_any (v : Nat) (w : World) (hv : v < 18446744073709551616) :
    Calls Tryz.prog 98 #[.int .u64 v] w fun e w' => e = .returned (.bool (isVersionB v)) ∧ w = w' := by
  unfold isVersionB
  by_cases h0 : v = 0
  · subst h0
    go_enter Tryz.func98, Tryz.ntmps98
    go_wp2
    go_ret
    exact ⟨rfl, rfl⟩
  · have hn0 : ((v : Int) != 0) = true := by rw [bne_iff_ne]; omega
    have hp : 0 < v := by omega
    by_cases h1 : v < 18446744073709551615
    · have h1' : (v : Int) < 18446744073709551615 := by omega
      have hn1 : ((v : Int) + 1 != 0) = true := by rw [bne_iff_ne]; omega
      clear h0
      go_enter Tryz.func98, Tryz.ntmps98
      go_wp2
      go_ret
      exact ⟨by simp [hp, h1], rfl⟩
    · have hm : v = 18446744073709551615 := by omega
      have hw : IntKind.u64.wrap ((v : Int) + 1) = 0 := by subst hm; rfl
      have HM := Lib.hid h1
      clear h0 h1 hm
      go_enter Tryz.func98, Tryz.ntmps98
      go_wp2
      go_ret
      exact ⟨by simp [HM.out], rfl⟩
/-- the number that the bits from a to b of a number of 32 are -/
def bitsN (N a b : Nat) : Nat := N % 2 ^ (32 - a) / 2 ^ (32 - b)
theorem bitsN_self (N a : Nat) : bitsN N a a = 0 := Nat.div_eq_of_lt (Nat.mod_lt _ (Nat.two_pow_pos _))
theorem bitsN_succ (N a k : Nat) (ha : a ≤ k) (hk : k < 32) : bitsN N a (k + 1) = 2 * bitsN N a k + N / 2 ^ (31 - k) % 2 := by
  unfold bitsN
  have e1 : 32 - (k + 1) = 31 - k := by omega
  have e2 : 32 - k = (31 - k) + 1 := by omega
  rw [e1, e2, Nat.pow_succ, ← Nat.div_div_eq_div_mul]
  have h1 : N % 2 ^ (32 - a) / 2 ^ (31 - k) % 2 = N / 2 ^ (31 - k) % 2 := by
    have e3 : 32 - a = (31 - k) + ((k - a) + 1) := by omega
    rw [e3, Nat.pow_add, Nat.mod_mul_right_div_self]
    rw [Nat.pow_succ, Nat.mul_comm]
    exact Nat.mod_mul_right_mod _ _ _
  omega
theorem bitsN_lt (N a k : Nat) (_ha : a ≤ k) (_hk : k ≤ 32) : bitsN N a k < 4294967296 := by
  unfold bitsN
  refine Nat.lt_of_le_of_lt (Nat.div_le_self _ _) (Nat.lt_of_lt_of_le (Nat.mod_lt _ (Nat.two_pow_pos _)) ?_)
  exact Nat.le_trans (Nat.pow_le_pow_right (by decide) (by omega : 32 - a ≤ 32)) (by decide)
theorem bit_at (x0 x1 x2 x3 : UInt8) (r : List UInt8) (k : Nat) (hk : k < 32) :
    ∃ y : UInt8, (x0 :: x1 :: x2 :: x3 :: r)[k / 8]? = some y ∧ y.toNat / 2 ^ (7 - k % 8) % 2 = be32 x0 x1 x2 x3 / 2 ^ (31 - k) % 2 := by
  have h0 := x0.toNat_lt
  have h1 := x1.toNat_lt
  have h2 := x2.toNat_lt
  have h3 := x3.toNat_lt
  unfold be32
  have hs : k = 0 ∨ k = 1 ∨ k = 2 ∨ k = 3 ∨ k = 4 ∨ k = 5 ∨ k = 6 ∨ k = 7 ∨ k = 8 ∨ k = 9 ∨ k = 10 ∨ k = 11 ∨ k = 12 ∨ k = 13 ∨ k = 14 ∨ k = 15 ∨ k = 16 ∨ k = 17 ∨ k = 18 ∨ k = 19 ∨ k = 20 ∨ k = 21 ∨ k = 22 ∨ k = 23 ∨ k = 24 ∨ k = 25 ∨ k = 26 ∨ k = 27 ∨ k = 28 ∨ k = 29 ∨ k = 30 ∨ k = 31 := by omega
  rcases hs with rfl | rfl | rfl | rfl | rfl | rfl | rfl | rfl | rfl | rfl | rfl | rfl | rfl | rfl | rfl | rfl | rfl | rfl | rfl | rfl | rfl | rfl | rfl | rfl | rfl | rfl | rfl | rfl | rfl | rfl | rfl | rfl
  all_goals
    refine ⟨_, rfl, ?_⟩
    simp only [Nat.reduceMod, Nat.reduceSub, Nat.reducePow]
    omega
set_option maxRecDepth 100000 in
set_option maxHeartbeats 400000 in
theorem refBits_any (x0 x1 x2 x3 : UInt8) (r : List UInt8) (a b : Nat) (w : World) (hab : a ≤ b) (hb : b ≤ 32) (_hr : r.length ≤ 9223372036854775000) :
    Calls Tryz.prog 182 #[.string ⟨(x0 :: x1 :: x2 :: x3 :: r).toArray⟩, .int .i64 a, .int .i64 b] w fun e w' => e = .returned (.int .i64 (bitsN (be32 x0 x1 x2 x3) a b)) ∧ w = w' := by
  go_enter Tryz.func182, Tryz.ntmps182
  go_wp2
  go_loop [7, 8] (fun n i => ∃ k : Nat, a ≤ k ∧ k ≤ b ∧ i = .int .i64 k ∧ n = .int .i64 (bitsN (be32 x0 x1 x2 x3) a k)) (fun _ i => b - (intOf i).toNat)
  case atStart => exact ⟨a, by omega, by omega, rfl, by rw [bitsN_self]; rfl⟩
  case round =>
    obtain ⟨k, hk1, hk2, rfl, rfl⟩ := hrel
    by_cases h : k < b
    · have H := Lib.hid (bitsN_succ (be32 x0 x1 x2 x3) a k hk1 (by omega))
      obtain ⟨y, hy, hyb⟩ := bit_at x0 x1 x2 x3 r k (by omega)
      have hlt := bitsN_lt (be32 x0 x1 x2 x3) a k hk1 (by omega)
      have HY := Lib.hid hyb
      have hix : ∀ w, (Instr.index 9 (.string ⟨(x0 :: x1 :: x2 :: x3 :: r).toArray⟩) (.int .i64 ((k : Int) / 8))).run Tryz.prog w = .ok (.int .u8 y.toNat) w := fun w => run_index_str Tryz.underlying9 _ _ ((k : Int) / 8) y (by omega) (by rw [show ((k : Int) / 8).toNat = k / 8 by omega]; exact hy) w
      have hy8 := y.toNat_lt
      generalize bitsN (be32 x0 x1 x2 x3) a k = n at *
      clear hy hyb
      have hk32 : k < 32 := by omega
      go_wp2
      go_round
      case rel =>
        refine ⟨k + 1, by omega, by omega, by go_num, ?_⟩
        rw [H.out, ← HY.out]
        generalize 7 - k % 8 = j
        have hj : ((y.toNat : Int) / 2 ^ j) = ((y.toNat / 2 ^ j : Nat) : Int) := by rw [Int.natCast_ediv, Int.natCast_pow]; rfl
        have hq : y.toNat / 2 ^ j ≤ 255 := Nat.le_trans (Nat.div_le_self _ _) (by omega)
        rw [hj]
        generalize y.toNat / 2 ^ j = q at *
        rw [IntWalk.wrap64_in (q : Int) (by omega), Int.tmod_eq_emod_of_nonneg (by omega), IntWalk.wrap64_in _ (by omega)]
        congr 1
      case measure => simp [intOf]; omega
    · obtain rfl : k = b := by omega
      go_wp2
      go_ret
      exact ⟨rfl, rfl⟩
theorem key_mod (N e : Nat) (h : e ≤ 32) : (N * 2 ^ e % 4294967296 == 0) = (bitsN N e 32 == 0) := by
  have e1 : N * 2 ^ e % 4294967296 = N % 2 ^ (32 - e) * 2 ^ e := by
    rw [show 4294967296 = 2 ^ (32 - e) * 2 ^ e by rw [← Nat.pow_add, show 32 - e + e = 32 by omega], Nat.mul_mod_mul_right]
  have hp : 2 ^ e ≠ 0 := Nat.ne_of_gt (Nat.two_pow_pos e)
  unfold bitsN
  rw [e1, Bool.eq_iff_iff, beq_iff_eq, beq_iff_eq, Nat.sub_self, Nat.pow_zero, Nat.div_one, Nat.mul_eq_zero]
  exact ⟨fun h => h.resolve_right hp, .inl⟩
set_option maxRecDepth 100000 in
set_option maxHeartbeats 400000 in
theorem refIsKey_0 (a b c d e f : UInt8) (w : World) :
    Calls Tryz.prog 139 #[.int .i64 0, .string ⟨[a, b, c, d, e, f].toArray⟩] w fun e w' => e = .returned (.bool (a.toNat % 2 == 0)) ∧ w = w' := by
  have ha := a.toNat_lt
  have i0 : ∀ w, (Instr.index 9 (.string ⟨[a, b, c, d, e, f].toArray⟩) (.int .i64 0)).run Tryz.prog w = .ok (.int .u8 a.toNat) w := fun w => run_index_str Tryz.underlying9 _ _ 0 a (by decide) rfl w
  go_enter Tryz.func139, Tryz.ntmps139
  go_wp2_with (go_at_call 181; refine (refSizes_any 0 _ (by omega) (by omega)).mono ?_; rintro e w' ⟨rfl, rfl⟩; simp only [keyLen, valLen])
  go_ret
  have he : ((a.toNat : Int) % 2 == 0) = (a.toNat % 2 == 0) := by
    rcases Nat.mod_two_eq_zero_or_one a.toNat with h | h
    · rw [h, show ((a.toNat : Int) % 2) = 0 by omega]; rfl
    · rw [h, show ((a.toNat : Int) % 2) = 1 by omega]; rfl
  exact ⟨by simp [he], rfl⟩
set_option maxRecDepth 100000 in
set_option maxHeartbeats 400000 in
theorem refIsKey_1 (a b c d e : UInt8) (w : World) (h32 : e.toNat ≤ 32) :
    Calls Tryz.prog 139 #[.int .i64 1, .string ⟨[a, b, c, d, e].toArray⟩] w fun r w' => r = .returned (.bool (be32 a b c d * 2 ^ e.toNat % 4294967296 == 0)) ∧ ∃ n, w' = w.drewN n := by
  have he := e.toNat_lt
  have i4 : ∀ w, (Instr.index 9 (.string ⟨[a, b, c, d, e].toArray⟩) (.int .i64 4)).run Tryz.prog w = .ok (.int .u8 e.toNat) w := fun w => run_index_str Tryz.underlying9 _ _ 4 e (by decide) rfl w
  have sl : ∀ w, (Instr.slice 9 (.string ⟨[a, b, c, d, e].toArray⟩) none (some (.int .i64 4)) none).run Tryz.prog w = .ok (.string ⟨[a, b, c, d].toArray⟩) w := fun w => run_str_to Tryz.underlying9 [a, b, c, d, e] _ 4 (by decide) (by simp) w
  have hi : (e.toNat : Int) ≤ 32 := by omega
  have hb : ∀ w, Calls Tryz.prog 182 #[.string ⟨[a, b, c, d].toArray⟩, .int .i64 e.toNat, .int .i64 32] w fun r w' => r = .returned (.int .i64 (bitsN (be32 a b c d) e.toNat 32)) ∧ w = w' := fun w => refBits_any a b c d [] e.toNat 32 w h32 (by omega) (by simp)
  have HB := Lib.hid hb
  clear hb
  have HQ := Lib.hid (key_mod (be32 a b c d) e.toNat h32)
  go_enter Tryz.func139, Tryz.ntmps139
  go_wp2_with (go_at_call 181; refine (refSizes_any 1 _ (by omega) (by omega)).mono ?_; rintro e w' ⟨rfl, rfl⟩; simp only [keyLen, valLen])
  go_quiet ((first | (go_at_call 182; exact Calls.quiet_of_same ((HB.out _).mono fun _ _ ⟨h1, h2⟩ => ⟨h1, h2.symm⟩))))
  go_wp2
  go_ret
  have hz : ((bitsN (be32 a b c d) e.toNat 32 : Int) == 0) = (bitsN (be32 a b c d) e.toNat 32 == 0) := by rw [Bool.eq_iff_iff, beq_iff_eq, beq_iff_eq]; omega
  exact ⟨by rw [HQ.out]; simp [hz], _, rfl⟩
set_option maxRecDepth 100000 in
set_option maxHeartbeats 400000 in
theorem refIsKey_1x (a b c d e : UInt8) (w : World) (h32 : ¬ e.toNat ≤ 32) :
    Calls Tryz.prog 139 #[.int .i64 1, .string ⟨[a, b, c, d, e].toArray⟩] w fun r w' => r = .returned (.bool false) ∧ ∃ n, w' = w.drewN n := by
  have he := e.toNat_lt
  have i4 : ∀ w, (Instr.index 9 (.string ⟨[a, b, c, d, e].toArray⟩) (.int .i64 4)).run Tryz.prog w = .ok (.int .u8 e.toNat) w := fun w => run_index_str Tryz.underlying9 _ _ 4 e (by decide) rfl w
  have hi : ¬ (e.toNat : Int) ≤ 32 := by omega
  have hd : decide ((e.toNat : Int) ≤ 32) = false := decide_eq_false hi
  go_enter Tryz.func139, Tryz.ntmps139
  go_wp2_with (go_at_call 181; refine (refSizes_any 1 _ (by omega) (by omega)).mono ?_; rintro e w' ⟨rfl, rfl⟩; simp only [keyLen, valLen])
  go_quiet (fail)
  go_wp2
  go_ret
  exact ⟨rfl, _, rfl⟩
set_option maxRecDepth 100000 in
theorem refIsKey_2 (a b : UInt8) (w : World) :
    Calls Tryz.prog 139 #[.int .i64 2, .string ⟨[a, b].toArray⟩] w fun r w' => r = .returned (.bool true) ∧ w = w' := by
  go_enter Tryz.func139, Tryz.ntmps139
  go_wp2_with (go_at_call 181; refine (refSizes_any 2 _ (by omega) (by omega)).mono ?_; rintro e w' ⟨rfl, rfl⟩; simp only [keyLen, valLen])
  go_ret
  exact ⟨rfl, rfl⟩
set_option maxRecDepth 100000 in
theorem refIsKey_len (t : Int) (k : List UInt8) (w : World) (h0 : 0 ≤ t) (h2 : t < 3) (_hl : k.length ≤ maxB) (hk : k.length ≠ keyLen t) :
    Calls Tryz.prog 139 #[.int .i64 t, .string ⟨k.toArray⟩] w fun r w' => r = .returned (.bool false) ∧ w = w' := by
  have hn : ((k.length : Int) != keyLen t) = true := by rw [bne_iff_ne]; omega
  unfold maxB at _hl
  clear hk
  have hc := refSizes_any t
  generalize keyLen t = kl at *
  generalize valLen t = vl at *
  have HC := Lib.hid hc
  clear hc
  go_enter Tryz.func139, Tryz.ntmps139
  go_wp2_with (go_at_call 181; refine (HC.out _ h0 h2).mono ?_; rintro e w' ⟨rfl, rfl⟩)
  go_ret
  exact ⟨rfl, rfl⟩
end Go.Proofs.YtkkfmkhbdoeglabGreatDoor
namespace Go.Proofs.YtkkfmkhbdoeglabGreatDoor
open Go.RowKit
theorem refIsKey_any (t : Int) (k : List UInt8) (w : World) (h0 : 0 ≤ t) (h2 : t < 3) (hl : k.length ≤ maxB) :
    Calls Tryz.prog 139 #[.int .i64 t, .string ⟨k.toArray⟩] w fun r w' => r = .returned (.bool (isKeyB t k)) ∧ ∃ n, w' = w.drewN n := by
  by_cases hk : k.length = keyLen t
  · have : t = 0 ∨ t = 1 ∨ t = 2 := by omega
    rcases this with rfl | rfl | rfl
    · obtain ⟨a, b, c, d, e, f, rfl⟩ := length6 hk
      exact (refIsKey_0 a b c d e f w).mono fun _ _ ⟨h1, h2⟩ => ⟨h1, 0, h2.symm⟩
    · obtain ⟨a, b, c, d, e, rfl⟩ := length5 hk
      by_cases h32 : e.toNat ≤ 32
      · refine (refIsKey_1 a b c d e w h32).mono fun _ _ ⟨h1, h2⟩ => ⟨?_, h2⟩
        rw [h1]
        simp [isKeyB, h32]
      · refine (refIsKey_1x a b c d e w h32).mono fun _ _ ⟨h1, h2⟩ => ⟨?_, h2⟩
        rw [h1]
        simp [isKeyB, h32]
    · obtain ⟨a, b, rfl⟩ := length2 hk
      exact (refIsKey_2 a b w).mono fun _ _ ⟨h1, h2⟩ => ⟨h1, 0, h2.symm⟩
  · rw [isKeyB_len hk]
    exact (refIsKey_len t k w h0 h2 hl hk).mono fun _ _ ⟨h1, h2⟩ => ⟨h1, 0, h2.symm⟩
set_option maxRecDepth 100000 in
set_option maxHeartbeats 400000 in
theorem refIsValue_len (t : Int) (k : List UInt8) (w : World) (h0 : 0 ≤ t) (h2 : t < 3) (_hl : k.length ≤ maxB) (hk : k.length ≠ valLen t) :
    Calls Tryz.prog 140 #[.int .i64 t, .string ⟨k.toArray⟩] w fun r w' => r = .returned (.bool false) ∧ w = w' := by
  have hn : ((k.length : Int) != valLen t) = true := by rw [bne_iff_ne]; omega
  unfold maxB at _hl
  clear hk
  have hc := refSizes_any t
  generalize keyLen t = kl at *
  generalize valLen t = vl at *
  have HC := Lib.hid hc
  clear hc
  go_enter Tryz.func140, Tryz.ntmps140
  go_wp2_with (go_at_call 181; refine (HC.out _ h0 h2).mono ?_; rintro e w' ⟨rfl, rfl⟩)
  go_ret
  exact ⟨rfl, rfl⟩
theorem zeros4 (a b c d : UInt8) : (!a == 0 || (!b == 0 || (!c == 0 || !d == 0))) = (be32 a b c d != 0) := by
  have ha := a.toNat_lt
  have hb := b.toNat_lt
  have hc := c.toNat_lt
  have hd := d.toNat_lt
  rw [Bool.eq_iff_iff, bne_iff_ne]
  unfold be32
  simp only [Bool.or_eq_true, Bool.not_eq_true', beq_eq_false_iff_ne, ne_eq, ← UInt8.toNat_inj, UInt8.toNat_zero]
  omega
set_option maxRecDepth 100000 in
set_option maxHeartbeats 400000 in
theorem refIsValue_addr (t : Int) (a b c d : UInt8) (w : World) (h0 : 0 ≤ t) (h2 : t < 2) :
    Calls Tryz.prog 140 #[.int .i64 t, .string ⟨[a, b, c, d].toArray⟩] w fun r w' => r = .returned (.bool (be32 a b c d != 0)) ∧ w = w' := by
  have H4 := Lib.hid (zeros4 a b c d)
  have : t = 0 ∨ t = 1 := by omega
  rcases this with rfl | rfl
  all_goals
    go_enter Tryz.func140, Tryz.ntmps140
    go_wp2_with (go_at_call 181; refine (refSizes_any _ _ (by omega) (by omega)).mono ?_; rintro e w' ⟨rfl, rfl⟩; simp only [keyLen, valLen])
    go_ret
    exact ⟨congrArg (fun b => Ending.returned (.bool b)) H4.out, rfl⟩
set_option maxRecDepth 100000 in
set_option maxHeartbeats 400000 in
theorem refIsValue_acl (a b : UInt8) (w : World) :
    Calls Tryz.prog 140 #[.int .i64 2, .string ⟨[a, b].toArray⟩] w fun e w' => e = .returned (.bool ((a.toNat == 0 || a.toNat == 6 || a.toNat == 17) && decide (b.toNat ≤ 1))) ∧ w = w' := by
  have i0 : ∀ w, (Instr.index 9 (.string ⟨[a, b].toArray⟩) (.int .i64 0)).run Tryz.prog w = .ok (.int .u8 a.toNat) w := fun w => run_index_str Tryz.underlying9 _ _ 0 a (by decide) rfl w
  have i1 : ∀ w, (Instr.index 9 (.string ⟨[a, b].toArray⟩) (.int .i64 1)).run Tryz.prog w = .ok (.int .u8 b.toNat) w := fun w => run_index_str Tryz.underlying9 _ _ 1 b (by decide) rfl w
  have hd : decide ((b.toNat : Int) ≤ 1) = decide (b.toNat ≤ 1) := by
    rw [Bool.eq_iff_iff]; simp; omega
  have hc : ∀ n : Nat, ((a.toNat : Int) == n) = (a.toNat == n) := fun n => by
    rw [Bool.eq_iff_iff, beq_iff_eq, beq_iff_eq]; omega
  have h0 := hc 0
  have h6 := hc 6
  have h17 := hc 17
  have ha := a.toNat_lt
  have hb := b.toNat_lt
  clear hc
  cases k0 : (a.toNat == 0) <;> cases k6 : (a.toNat == 6) <;> cases k17 : (a.toNat == 17)
  all_goals
    rw [k0] at h0
    rw [k6] at h6
    rw [k17] at h17
    have e0 : ((a.toNat : Int) == 0) = _ := h0
    have e6 : ((a.toNat : Int) == 6) = _ := h6
    have e17 : ((a.toNat : Int) == 17) = _ := h17
    clear h0 h6 h17 k0 k6 k17
    go_enter Tryz.func140, Tryz.ntmps140
    go_wp2_with (go_at_call 181; refine (refSizes_any 2 _ (by omega) (by omega)).mono ?_; rintro e w' ⟨rfl, rfl⟩; simp only [keyLen, valLen])
    go_ret
    exact ⟨by simp, rfl⟩
theorem refIsValue_any (t : Int) (k : List UInt8) (w : World) (h0 : 0 ≤ t) (h2 : t < 3) (hl : k.length ≤ maxB) :
    Calls Tryz.prog 140 #[.int .i64 t, .string ⟨k.toArray⟩] w fun e w' => e = .returned (.bool (isValueB t k)) ∧ w = w' := by
  by_cases hk : k.length = valLen t
  · by_cases ht : t = 2
    · subst ht
      obtain ⟨a, b, rfl⟩ := length2 hk
      exact refIsValue_acl a b w
    · have h4 : k.length = 4 := by unfold valLen at hk; split at hk <;> simp_all; omega
      obtain ⟨a, b, c, d, rfl⟩ := length4 h4
      have e : isValueB t [a, b, c, d] = (be32 a b c d != 0) := by unfold isValueB; rw [if_neg ht]
      rw [e]
      exact refIsValue_addr t a b c d w h0 (by omega)
  · rw [isValueB_len h0 h2 hk]
    exact refIsValue_len t k w h0 h2 hl hk
end Go.Proofs.YtkkfmkhbdoeglabGreatDoor
