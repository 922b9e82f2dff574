/- Contracts of the reference's isKey, isValue, number. No condition. -/
import Derived.Test.YtkkfmkhbdoeglaaGreatDoorRefCodecA
namespace Go.Proofs.YtkkfmkhbdoeglaaGreatDoor
open Go.RowKit

theorem refIsKey_any (t : Int) (k : List UInt8) (w : World) (h0 : 0 ≤ t) (h2 : t < 3) (hl : k.length ≤ maxB) :
    Calls Tryz.prog 103 #[.int .i64 t, .string ⟨k.toArray⟩] w fun r w' => r = .returned (.bool (isKeyB t k)) ∧ ∃ n, w' = w.drewN n := by
  by_cases hk : k.length = keyLen t
  · have : t = 0 ∨ t = 1 ∨ t = 2 := by omega
    rcases this with rfl | rfl | rfl
    · obtain ⟨a, b, c, d, e, f, rfl⟩ := length6 hk
      exact (refIsKey_0 a b c d e f w).mono fun _ _ ⟨h1, h2⟩ => ⟨h1, 0, h2.symm⟩
    · obtain ⟨a, b, c, d, e, rfl⟩ := length5 hk
      by_cases h32 : e.toNat ≤ 32
      · refine (refIsKey_1 a b c d e w h32).mono fun _ _ ⟨h1, h2⟩ => ⟨?_, h2⟩
        rw [h1]
        simp [isKeyB, h32]
      · refine (refIsKey_1x a b c d e w h32).mono fun _ _ ⟨h1, h2⟩ => ⟨?_, h2⟩
        rw [h1]
        simp [isKeyB, h32]
    · obtain ⟨a, b, rfl⟩ := length2 hk
      exact (refIsKey_2 a b w).mono fun _ _ ⟨h1, h2⟩ => ⟨h1, 0, h2.symm⟩
  · rw [isKeyB_len hk]
    exact (refIsKey_len t k w h0 h2 hl hk).mono fun _ _ ⟨h1, h2⟩ => ⟨h1, 0, h2.symm⟩
set_option maxRecDepth 100000 in
set_option maxHeartbeats 400000 in
theorem refIsValue_len (t : Int) (k : List UInt8) (w : World) (h0 : 0 ≤ t) (h2 : t < 3) (_hl : k.length ≤ maxB) (hk : k.length ≠ valLen t) :
    Calls Tryz.prog 104 #[.int .i64 t, .string ⟨k.toArray⟩] w fun r w' => r = .returned (.bool false) ∧ w = w' := by
  have hn : ((k.length : Int) != valLen t) = true := by rw [bne_iff_ne]; omega
  unfold maxB at _hl
  clear hk
  have hc := refSizes_any t
  generalize keyLen t = kl at *
  generalize valLen t = vl at *
  have HC := Lib.hid hc
  clear hc
  go_enter Tryz.func104, Tryz.ntmps104
  go_wp2_with (go_at_call 141; refine (HC.out _ h0 h2).mono ?_; rintro e w' ⟨rfl, rfl⟩)
  go_ret
  exact ⟨rfl, rfl⟩
theorem zeros4 (a b c d : UInt8) : (!a == 0 || (!b == 0 || (!c == 0 || !d == 0))) = (be32 a b c d != 0) := by
  have ha := a.toNat_lt
  have hb := b.toNat_lt
  have hc := c.toNat_lt
  have hd := d.toNat_lt
  rw [Bool.eq_iff_iff, bne_iff_ne]
  unfold be32
  simp only [Bool.or_eq_true, Bool.not_eq_true', beq_eq_false_iff_ne, ne_eq, ← UInt8.toNat_inj, UInt8.toNat_zero]
  omega
set_option maxRecDepth 100000 in
set_option maxHeartbeats 400000 in
theorem refIsValue_addr (t : Int) (a b c d : UInt8) (w : World) (h0 : 0 ≤ t) (h2 : t < 2) :
    Calls Tryz.prog 104 #[.int .i64 t, .string ⟨[a, b, c, d].toArray⟩] w fun r w' => r = .returned (.bool (be32 a b c d != 0)) ∧ w = w' := by
  have H4 := Lib.hid (zeros4 a b c d)
  have : t = 0 ∨ t = 1 := by omega
  rcases this with rfl | rfl
  all_goals
    go_enter Tryz.func104, Tryz.ntmps104
    go_wp2_with (go_at_call 141; refine (refSizes_any _ _ (by omega) (by omega)).mono ?_; rintro e w' ⟨rfl, rfl⟩; simp only [keyLen, valLen])
    go_ret
    exact ⟨congrArg (fun b => Ending.returned (.bool b)) H4.out, rfl⟩
set_option maxRecDepth 100000 in
set_option maxHeartbeats 400000 in
theorem refIsValue_acl (a b : UInt8) (w : World) :
    Calls Tryz.prog 104 #[.int .i64 2, .string ⟨[a, b].toArray⟩] w fun e w' => e = .returned (.bool ((a.toNat == 0 || a.toNat == 6 || a.toNat == 17) && decide (b.toNat ≤ 1))) ∧ w = w' := by
  have i0 : ∀ w, (Instr.index 9 (.string ⟨[a, b].toArray⟩) (.int .i64 0)).run Tryz.prog w = .ok (.int .u8 a.toNat) w := fun w => run_index_str Tryz.underlying9 _ _ 0 a (by decide) rfl w
  have i1 : ∀ w, (Instr.index 9 (.string ⟨[a, b].toArray⟩) (.int .i64 1)).run Tryz.prog w = .ok (.int .u8 b.toNat) w := fun w => run_index_str Tryz.underlying9 _ _ 1 b (by decide) rfl w
  have hd : decide ((b.toNat : Int) ≤ 1) = decide (b.toNat ≤ 1) := by
    rw [Bool.eq_iff_iff]; simp; omega
  have hc : ∀ n : Nat, ((a.toNat : Int) == n) = (a.toNat == n) := fun n => by
    rw [Bool.eq_iff_iff, beq_iff_eq, beq_iff_eq]; omega
  have h0 := hc 0
  have h6 := hc 6
  have h17 := hc 17
  have ha := a.toNat_lt
  have hb := b.toNat_lt
  clear hc
  cases k0 : (a.toNat == 0) <;> cases k6 : (a.toNat == 6) <;> cases k17 : (a.toNat == 17)
  all_goals
    rw [k0] at h0
    rw [k6] at h6
    rw [k17] at h17
    have e0 : ((a.toNat : Int) == 0) = _ := h0
    have e6 : ((a.toNat : Int) == 6) = _ := h6
    have e17 : ((a.toNat : Int) == 17) = _ := h17
    clear h0 h6 h17 k0 k6 k17
    go_enter Tryz.func104, Tryz.ntmps104
    go_wp2_with (go_at_call 141; refine (refSizes_any 2 _ (by omega) (by omega)).mono ?_; rintro e w' ⟨rfl, rfl⟩; simp only [keyLen, valLen])
    go_ret
    exact ⟨by simp, rfl⟩
theorem refIsValue_any (t : Int) (k : List UInt8) (w : World) (h0 : 0 ≤ t) (h2 : t < 3) (hl : k.length ≤ maxB) :
    Calls Tryz.prog 104 #[.int .i64 t, .string ⟨k.toArray⟩] w fun e w' => e = .returned (.bool (isValueB t k)) ∧ w = w' := by
  by_cases hk : k.length = valLen t
  · by_cases ht : t = 2
    · subst ht
      obtain ⟨a, b, rfl⟩ := length2 hk
      exact refIsValue_acl a b w
    · have h4 : k.length = 4 := by unfold valLen at hk; split at hk <;> simp_all; omega
      obtain ⟨a, b, c, d, rfl⟩ := length4 h4
      have e : isValueB t [a, b, c, d] = (be32 a b c d != 0) := by unfold isValueB; rw [if_neg ht]
      rw [e]
      exact refIsValue_addr t a b c d w h0 (by omega)
  · rw [isValueB_len h0 h2 hk]
    exact refIsValue_len t k w h0 h2 hl hk

/-- the last k of a number's eight bytes -/
theorem be8_drop (v k : Nat) (h : k < 8) : (be8 v).drop (7 - k) = UInt8.ofNat (v / 256 ^ k) :: (be8 v).drop (8 - k) := by
  rw [List.drop_eq_getElem_cons (by rw [be8_length]; omega), show 7 - k + 1 = 8 - k by omega]
  congr 1
  simp only [be8, List.getElem_map, List.getElem_range]
  rw [show 56 - 8 * (7 - k) = 8 * k by omega, Nat.pow_mul]
set_option maxRecDepth 100000 in
set_option maxHeartbeats 400000 in
theorem refNumber_any (v : Nat) (w : World) (hv : v < 18446744073709551616) :
    Calls Tryz.prog 76 #[.int .u64 v] w fun e w' => e = .returned (.string ⟨(be8 v).toArray⟩) ∧ Below w.heap.size w w' := by
  go_enter Tryz.func76, Tryz.ntmps76
  go_wp2
  go_loopw [0, 3, 4] (fun x s i wr => ∃ k : Nat, k ≤ 8 ∧ i = .int .i64 k ∧ x = .int .u64 ((v / 256 ^ k : Nat)) ∧ s = .string ⟨((be8 v).drop (8 - k)).toArray⟩ ∧ Below w.heap.size w wr) (fun _ _ i _ => 8 - (intOf i).toNat)
  case atStart => exact ⟨0, by omega, rfl, by simp, by simp [be8], Below.refl _ _⟩
  case round =>
    obtain ⟨k, hk, rfl, rfl, rfl, hb⟩ := hrel
    by_cases h8 : k < 8
    · have h8' : (k : Int) < 8 := by omega
      have H := Lib.hid (be8_drop v k h8)
      have H2 := Lib.hid (show v / 256 ^ k / 256 = v / 256 ^ (k + 1) by rw [Nat.div_div_eq_div_mul, Nat.pow_succ])
      have hxl : v / 256 ^ k < 18446744073709551616 := Nat.lt_of_le_of_lt (Nat.div_le_self _ _) hv
      have hdl : ((be8 v).drop (8 - k)).length ≤ 8 := by rw [List.length_drop, be8_length]; omega
      generalize v / 256 ^ k = x at *
      generalize (be8 v).drop (8 - k) = s at *
      have hX : ((UInt8.ofNat x).toNat : Int) = (x : Int) % 256 := by simp
      have hone := fun w => one_at w (UInt8.ofNat x)
      rw [hX] at hone
      go_wp2_with (first
        | (refine wpList_string_of rfl (.tmp 11) rfl [UInt8.ofNat x] (hone _) ?_)
        | (refine wpList_add_str rfl (.tmp 12) (.tmp 13) rfl [UInt8.ofNat x] s rfl rfl (by simp; omega) ?_))
      go_roundw
      case rel =>
        refine ⟨k + 1, by omega, by go_num, ?_, ?_, (hb.alloc hb.size _)⟩
        · rw [← H2.out]; rfl
        · rw [show 8 - (k + 1) = 7 - k by omega, H.out]
      case measure => simp [intOf]; omega
    · obtain rfl : k = 8 := by omega
      go_wp2
      go_ret
      exact ⟨by simp, hb⟩
end Go.Proofs.YtkkfmkhbdoeglaaGreatDoor
