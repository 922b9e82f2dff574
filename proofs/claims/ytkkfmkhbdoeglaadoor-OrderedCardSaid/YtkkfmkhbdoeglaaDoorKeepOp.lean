/- A walk of package overlaykeep's pick. No condition. -/
import Derived.Test.YtkkfmkhbdoeglaaDoorPlainB
import Derived.Test.YtkkfmkhbdoeglaaDoorDeltaA
import Derived.Test.YtkkfmkhbdoeglaaDoorHeap
namespace Go.Proofs.YtkkfmkhbdoeglaaDoor
open Go.RowKit

theorem keepPick_any (c n : Int) (w : World) (h1 : -9223372036854775808 ≤ c) (h2 : c ≤ 9223372036854775807) (hn : 1 ≤ n) :
    Calls Tryd.prog 14 #[.int .i64 c, .int .i64 n] w fun e w' => e = .returned (.int .i64 (pickN c n)) ∧ w = w' := by
  have hn0 : (n == 0) = false := by rw [beq_eq_false_iff_ne]; omega
  by_cases hc : c < 0
  · have HP : Hid (pickN c n = (-(c + 1)) % n) := Lib.hid (by unfold pickN; rw [if_pos hc])
    go_enter Tryd.func14, Tryd.ntmps14
    go_wp2
    go_ret
    exact ⟨by rw [HP.out]; exact congrArg (fun x => Ending.returned (.int .i64 x)) (by rw [← Int.neg_tmod, Int.tmod_eq_emod_of_nonneg (by omega)]), rfl⟩
  · have HP : Hid (pickN c n = c % n) := Lib.hid (by unfold pickN; rw [if_neg hc])
    go_enter Tryd.func14, Tryd.ntmps14
    go_wp2
    go_ret
    exact ⟨by rw [HP.out]; rfl, rfl⟩

end Go.Proofs.YtkkfmkhbdoeglaaDoor

/- The contracts of package overlaykeep's key and op: changes that may be, by numbers. No condition. -/
namespace Go.Proofs.YtkkfmkhbdoeglaaDoor
open Go.RowKit

theorem lit_at (w : World) (l : List UInt8) (C : Array Value) (n : Nat) (hn : l.length = n) (hC : C.toList = u8s l) (hm : n ≤ 100) : BytesAt (w.alloc (.cells C 5)) (.slice (some ⟨w.heap.size, 0, none⟩) n n) l := by
  subst hn
  have hmx : maxLen = 9223372036854775807 := rfl
  have hs : C.size = l.length := by rw [← Array.length_toList, hC, u8s_length]
  have h := OwnS.new w C 5 0 0 0 1 l.length l.length (Nat.zero_le _) (Nat.le_refl _) (by omega) (by omega) (.inl (by omega))
  rw [Nat.mul_one, hC, List.take_of_length_le (by rw [u8s_length]; omega)] at h
  exact h.bytes
/-- a key that may be, by a number below 60 -/
def keyN (n : Nat) : K :=
  if n % 3 = 0 then (0, [2, 0, 0, 0, UInt8.ofNat (n / 3 % 5), UInt8.ofNat (n / 15)])
  else if n % 3 = 1 then (1, [10, UInt8.ofNat (n / 3 % 5), 0, 0, UInt8.ofNat (16 + n / 15)])
  else (2, [UInt8.ofNat (n / 3 % 5), UInt8.ofNat (n / 15)])
set_option maxRecDepth 100000 in
set_option maxHeartbeats 400000 in
theorem keepKey_any (c : Int) (w : World) (h1 : -9223372036854775808 ≤ c) (h2 : c ≤ 9223372036854775807) :
    Calls Tryd.prog 63 #[.int .i64 c] w fun e w' => e = .returned (keyV (keyN (pickN c 60).toNat).1 (keyN (pickN c 60).toNat).2) ∧ Below w.heap.size w w' := by
  obtain ⟨b1, b2⟩ := pickN_bound c 60 (by omega)
  have HP := Lib.hid (keepPick_any c 60)
  obtain ⟨n, hn⟩ := Int.eq_ofNat_of_zero_le b1
  rw [hn] at HP b2 ⊢
  rw [Int.toNat_natCast]
  have hn60 : n < 60 := by omega
  clear b1 b2 hn
  obtain ⟨B, hB⟩ : ∃ B : UInt8, (B.toNat : Int) = (n : Int) / 3 % 5 ∧ B = UInt8.ofNat (n / 3 % 5) := ⟨UInt8.ofNat (n / 3 % 5), by simp; omega, rfl⟩
  obtain ⟨X, hX⟩ : ∃ X : UInt8, (X.toNat : Int) = (n : Int) / 15 ∧ X = UInt8.ofNat (n / 15) := ⟨UInt8.ofNat (n / 15), by simp; omega, rfl⟩
  obtain ⟨Y, hY⟩ : ∃ Y : UInt8, (Y.toNat : Int) = 16 + (n : Int) / 15 ∧ Y = UInt8.ofNat (16 + n / 15) := ⟨UInt8.ofNat (16 + n / 15), by simp; omega, rfl⟩
  have HB := Lib.hid hB
  have HX := Lib.hid hX
  have HY := Lib.hid hY
  clear hB hX hY
  have hm := Nat.mod_lt n (show 3 > 0 by omega)
  by_cases hm0 : n % 3 = 0
  · have ht0 : ((n : Int) % 3 == 0) = true := by rw [beq_iff_eq]; omega
    have hk : Hid (keyN n = (0, [2, 0, 0, 0, B, X])) := Lib.hid (by unfold keyN; rw [if_pos hm0, HB.out.2, HX.out.2])
    have hC : (#[.int .u8 2, .int .u8 0, .int .u8 0, .int .u8 0, .int .u8 ((n : Int) / 3 % 5), .int .u8 ((n : Int) / 15)] : Array Value).toList = u8s [2, 0, 0, 0, B, X] := by simp [u8s, HB.out.1, HX.out.1]
    have HC := Lib.hid hC
    clear hC
    go_enter Tryd.func63, Tryd.ntmps63
    go_wp2_with (first
      | (go_at_call 14; refine (HP.out _ h1 h2 (by omega)).mono ?_; rintro e w1 ⟨rfl, rfl⟩)
      | (refine wpList_string_of rfl (.tmp 20) rfl [2, 0, 0, 0, B, X] (by have h := lit_at (w.alloc (.cells #[.int .i64 0, .string ⟨#[]⟩] 41)) [2, 0, 0, 0, B, X] _ 6 rfl HC.out (by omega); rw [World.size_alloc] at h; exact h) ?_))
    refine bodyPost_ret (v := keyV 0 [2, 0, 0, 0, B, X]) (by simp [results, Tryd.results63, go_sem, keyV]) rfl ⟨by rw [hk.out], ((Below.refl _ w).alloc (Nat.le_refl _) _).alloc (by simp) _⟩
  · have ht0 : ((n : Int) % 3 == 0) = false := by rw [beq_eq_false_iff_ne]; omega
    by_cases hm1 : n % 3 = 1
    · have ht1 : ((n : Int) % 3 == 1) = true := by rw [beq_iff_eq]; omega
      have hk : Hid (keyN n = (1, [10, B, 0, 0, Y])) := Lib.hid (by unfold keyN; rw [if_neg hm0, if_pos hm1, HB.out.2, HY.out.2])
      have hC : (#[.int .u8 10, .int .u8 ((n : Int) / 3 % 5), .int .u8 0, .int .u8 0, .int .u8 (16 + (n : Int) / 15)] : Array Value).toList = u8s [10, B, 0, 0, Y] := by simp [u8s, HB.out.1, HY.out.1]
      have HC := Lib.hid hC
      clear hC
      go_enter Tryd.func63, Tryd.ntmps63
      go_wp2_with (first
        | (go_at_call 14; refine (HP.out _ h1 h2 (by omega)).mono ?_; rintro e w1 ⟨rfl, rfl⟩)
        | (refine wpList_string_of rfl (.tmp 31) rfl [10, B, 0, 0, Y] (by have h := lit_at (w.alloc (.cells #[.int .i64 0, .string ⟨#[]⟩] 41)) [10, B, 0, 0, Y] _ 5 rfl HC.out (by omega); rw [World.size_alloc] at h; exact h) ?_))
      refine bodyPost_ret (v := keyV 1 [10, B, 0, 0, Y]) (by simp [results, Tryd.results63, go_sem, keyV]) rfl ⟨by rw [hk.out], ((Below.refl _ w).alloc (Nat.le_refl _) _).alloc (by simp) _⟩
    · have ht1 : ((n : Int) % 3 == 1) = false := by rw [beq_eq_false_iff_ne]; omega
      have hk : Hid (keyN n = (2, [B, X])) := Lib.hid (by unfold keyN; rw [if_neg hm0, if_neg hm1, HB.out.2, HX.out.2])
      have hC : (#[.int .u8 ((n : Int) / 3 % 5), .int .u8 ((n : Int) / 15)] : Array Value).toList = u8s [B, X] := by simp [u8s, HB.out.1, HX.out.1]
      have HC := Lib.hid hC
      clear hC
      go_enter Tryd.func63, Tryd.ntmps63
      go_wp2_with (first
        | (go_at_call 14; refine (HP.out _ h1 h2 (by omega)).mono ?_; rintro e w1 ⟨rfl, rfl⟩)
        | (refine wpList_string_of rfl (.tmp 38) rfl [B, X] (by have h := lit_at (w.alloc (.cells #[.int .i64 0, .string ⟨#[]⟩] 41)) [B, X] _ 2 rfl HC.out (by omega); rw [World.size_alloc] at h; exact h) ?_))
      refine bodyPost_ret (v := keyV 2 [B, X]) (by simp [results, Tryd.results63, go_sem, keyV]) rfl ⟨by rw [hk.out], ((Below.refl _ w).alloc (Nat.le_refl _) _).alloc (by simp) _⟩
end Go.Proofs.YtkkfmkhbdoeglaaDoor

/- The contract of package overlaykeep's op: a change that may be, by two numbers. No condition. -/
namespace Go.Proofs.YtkkfmkhbdoeglaaDoor
open Go.RowKit

def protoOf (n : Nat) : UInt8 := if n = 0 then 0 else if n = 1 then 6 else 17
/-- a change that may be, by two numbers -/
def opN (c d : Int) : OpB :=
  let k := keyN (pickN c 60).toNat
  let n := (pickN d 40).toNat
  if n % 4 = 0 then ⟨2, k.1, k.2, []⟩
  else if k.1 = 2 then ⟨1, k.1, k.2, [protoOf (n % 3), UInt8.ofNat (n / 3 % 2)]⟩
  else ⟨1, k.1, k.2, [1, UInt8.ofNat n, 0, 9]⟩
theorem keyN_good : ∀ n, n < 60 → 0 ≤ (keyN n).1 ∧ (keyN n).1 < 3 ∧ isKeyB (keyN n).1 (keyN n).2 = true := by decide +kernel
theorem valN_good : ∀ n, n < 40 → ¬ n % 4 = 0 → isValueB 2 [protoOf (n % 3), UInt8.ofNat (n / 3 % 2)] = true ∧ isValueB 0 [1, UInt8.ofNat n, 0, 9] = true ∧ isValueB 1 [1, UInt8.ofNat n, 0, 9] = true := by decide +kernel
theorem opN_good (c d : Int) (ks : List K) (h : ks.contains ((opN c d).table, (opN c d).key) = false) : opWrong (opN c d) ks = 0 := by
  obtain ⟨b1, b2⟩ := pickN_bound c 60 (by omega)
  obtain ⟨b3, b4⟩ := pickN_bound d 40 (by omega)
  obtain ⟨k1, k2, k3⟩ := keyN_good (pickN c 60).toNat (by omega)
  have hv := valN_good (pickN d 40).toNat (by omega)
  unfold opN at h ⊢
  simp only at h ⊢
  by_cases h4 : (pickN d 40).toNat % 4 = 0
  · rw [if_pos h4] at h ⊢
    exact opWrong_of (.inr rfl) k1 k2 k3 h rfl
  · obtain ⟨v1, v2, v3⟩ := hv h4
    rw [if_neg h4] at h ⊢
    by_cases hT : (keyN (pickN c 60).toNat).1 = 2
    · rw [if_pos hT] at h ⊢
      refine opWrong_of (.inl rfl) k1 k2 k3 h ?_
      unfold valOk
      simp only [hT]
      exact v1
    · rw [if_neg hT] at h ⊢
      refine opWrong_of (.inl rfl) k1 k2 k3 h ?_
      unfold valOk
      simp only
      rw [if_neg (by decide)]
      have : (keyN (pickN c 60).toNat).1 = 0 ∨ (keyN (pickN c 60).toNat).1 = 1 := by omega
      rcases this with h | h <;> rw [h]
      · exact v2
      · exact v3
set_option maxRecDepth 100000 in
set_option maxHeartbeats 1000000 in
theorem keepOp_any (c d : Int) (w : World) (h1 : -9223372036854775808 ≤ c) (h2 : c ≤ 9223372036854775807) (h3 : -9223372036854775808 ≤ d) (h4 : d ≤ 9223372036854775807) :
    Calls Tryd.prog 44 #[.int .i64 c, .int .i64 d] w fun e w' => e = .returned (opV (opN c d)) ∧ Below w.heap.size w w' := by
  obtain ⟨b1, b2⟩ := pickN_bound c 60 (by omega)
  obtain ⟨b3, b4⟩ := pickN_bound d 40 (by omega)
  obtain ⟨k1, k2, -⟩ := keyN_good (pickN c 60).toNat (by omega)
  have hK := fun W => keepKey_any c W h1 h2
  obtain ⟨T, KB, hk⟩ : ∃ T KB, keyN (pickN c 60).toNat = (T, KB) := ⟨_, _, rfl⟩
  rw [hk] at hK k1 k2
  have HK := Lib.hid hK
  have HP := Lib.hid (keepPick_any d 40)
  obtain ⟨n, hn⟩ := Int.eq_ofNat_of_zero_le b3
  have HO : Hid (opN c d = if n % 4 = 0 then ⟨2, T, KB, []⟩ else if T = 2 then ⟨1, T, KB, [protoOf (n % 3), UInt8.ofNat (n / 3 % 2)]⟩ else ⟨1, T, KB, [1, UInt8.ofNat n, 0, 9]⟩) := Lib.hid (by
    unfold opN
    rw [hk, hn, Int.toNat_natCast])
  rw [hn] at HP b4
  have hn40 : n < 40 := by omega
  clear b1 b2 b3 b4 hn hk hK
  simp only at k1 k2
  have R0 := heap_new w (.cells #[.int .i64 0, .int .i64 0, .string ⟨#[]⟩, .string ⟨#[]⟩] 43)
  have HR0 := Lib.hid R0
  clear R0
  have hm4 := Nat.mod_lt n (show 4 > 0 by omega)
  by_cases hm0 : n % 4 = 0
  · have ht0 : ((n : Int) % 4 == 0) = true := by rw [beq_iff_eq]; omega
    have HO2 : Hid (opN c d = ⟨2, T, KB, []⟩) := Lib.hid (by rw [HO.out, if_pos hm0])
    clear hm0 hm4
    go_enter Tryd.func44, Tryd.ntmps44
    go_wp2_with fail
    refine (HK.out _).mono ?_
    rintro e w1 ⟨rfl, hb1⟩
    unfold keyV
    have R1 := Lib.hid (below_at hb1 (by simp) HR0.out)
    have hs1 := hb1.size
    have r0 := cell_of_row _ _ 0 _ _ _ R1.out
    have r1 := cell_of_row _ _ 1 _ _ _ R1.out
    have r2 := cell_of_row _ _ 2 _ _ _ R1.out
    have r3 := cell_of_row _ _ 3 _ _ _ R1.out
    have z0 := frozen_of_row _ _ 0 _ _ R1.out
    have z1 := frozen_of_row _ _ 1 _ _ R1.out
    have z2 := frozen_of_row _ _ 2 _ _ R1.out
    have z3 := frozen_of_row _ _ 3 _ _ R1.out
    have hlr := block_lt R1.out
    have b1 : Below w.heap.size w w1 := ((Below.refl _ w).alloc (Nat.le_refl _) _).trans (hb1.mono (by simp))
    go_wp2_with (go_at_call 14; refine (HP.out _ h3 h4 (by omega)).mono ?_; rintro e w2 ⟨rfl, rfl⟩)
    have X := set4_at R1.out (.int .i64 2) (.int .i64 T) (.string ⟨KB.toArray⟩) (.string ⟨[].toArray⟩)
    have hB := set4_below b1 w.heap.size (.int .i64 2) (.int .i64 T) (.string ⟨KB.toArray⟩) (.string ⟨[].toArray⟩) (Nat.le_refl _)
    unfold set4 at X hB
    obtain ⟨x0, x1, x2, x3⟩ := X
    have y0 := cellAl (.cells #[.int .i64 2, .int .i64 T, .string ⟨KB.toArray⟩, .string ⟨#[]⟩] 43) (x0)
    have y1 := cellAl (.cells #[.int .i64 2, .int .i64 T, .string ⟨KB.toArray⟩, .string ⟨#[]⟩] 43) (x1)
    have y2 := cellAl (.cells #[.int .i64 2, .int .i64 T, .string ⟨KB.toArray⟩, .string ⟨#[]⟩] 43) (x2)
    have y3 := cellAl (.cells #[.int .i64 2, .int .i64 T, .string ⟨KB.toArray⟩, .string ⟨#[]⟩] 43) (x3)
    refine bodyPost_ret (v := opV ⟨2, T, KB, []⟩) (by simp [results, Tryd.results44, go_sem, opV, y0, y1, y2, y3]) rfl ⟨by rw [HO2.out], ?_⟩
    exact (hB).al _
  · have ht0 : ((n : Int) % 4 == 0) = false := by rw [beq_eq_false_iff_ne]; omega
    by_cases hT : T = 2
    · have ht1 : (T == 2) = true := by rw [beq_iff_eq]; exact hT
      have hm3 := Nat.mod_lt n (show 3 > 0 by omega)
      obtain ⟨Z, hZ⟩ : ∃ Z : UInt8, (∀ w, (Instr.index 9 (.string ⟨[0, 6, 17].toArray⟩) (.int .i64 ((n : Int) % 3))).run Tryd.prog w = .ok (.int .u8 Z.toNat) w) ∧ Z = protoOf (n % 3) := by
        refine ⟨protoOf (n % 3), fun w => run_index_str Tryd.underlying9 _ _ _ _ (by omega) ?_ w, rfl⟩
        rw [show ((n : Int) % 3).toNat = n % 3 by omega]
        have : n % 3 = 0 ∨ n % 3 = 1 ∨ n % 3 = 2 := by omega
        rcases this with h | h | h <;> rw [h] <;> rfl
      obtain ⟨Y, hY⟩ : ∃ Y : UInt8, (Y.toNat : Int) = (n : Int) / 3 % 2 ∧ Y = UInt8.ofNat (n / 3 % 2) := ⟨UInt8.ofNat (n / 3 % 2), by simp; omega, rfl⟩
      have HO2 : Hid (opN c d = ⟨1, T, KB, [Z, Y]⟩) := Lib.hid (by rw [HO.out, if_neg hm0, if_pos hT, hZ.2, hY.2])
      have hix := hZ.1
      have hz8 := Z.toNat_lt
      have hC : (#[.int .u8 (Z.toNat : Int), .int .u8 ((n : Int) / 3 % 2)] : Array Value).toList = u8s [Z, Y] := by simp [u8s, hY.1]
      have HC := Lib.hid hC
      clear hC hZ hY hT hm0 hm4
      go_enter Tryd.func44, Tryd.ntmps44
      go_wp2_with fail
      refine (HK.out _).mono ?_
      rintro e w1 ⟨rfl, hb1⟩
      unfold keyV
      have R1 := Lib.hid (below_at hb1 (by simp) HR0.out)
      have hs1 := hb1.size
      have r0 := cell_of_row _ _ 0 _ _ _ R1.out
      have r1 := cell_of_row _ _ 1 _ _ _ R1.out
      have r2 := cell_of_row _ _ 2 _ _ _ R1.out
      have r3 := cell_of_row _ _ 3 _ _ _ R1.out
      have z0 := frozen_of_row _ _ 0 _ _ R1.out
      have z1 := frozen_of_row _ _ 1 _ _ R1.out
      have z2 := frozen_of_row _ _ 2 _ _ R1.out
      have z3 := frozen_of_row _ _ 3 _ _ R1.out
      have hlr := block_lt R1.out
      have b1 : Below w.heap.size w w1 := ((Below.refl _ w).alloc (Nat.le_refl _) _).trans (hb1.mono (by simp))
      go_wp2_with (first
        | (go_at_call 14; refine (HP.out _ h3 h4 (by omega)).mono ?_; rintro e w2 ⟨rfl, rfl⟩)
        | (refine wpList_string_of rfl (.tmp 34) rfl [Z, Y] (by have h := lit_at (w1.alloc (.cells #[.int .i64 1, .int .i64 T, .string ⟨KB.toArray⟩, .string ⟨#[]⟩] 43)) [Z, Y] _ 2 rfl HC.out (by omega); rw [World.size_alloc] at h; exact h) ?_))
      have X := set4_at R1.out (.int .i64 1) (.int .i64 T) (.string ⟨KB.toArray⟩) (.string ⟨[Z, Y].toArray⟩)
      have hB := set4_below b1 w.heap.size (.int .i64 1) (.int .i64 T) (.string ⟨KB.toArray⟩) (.string ⟨[Z, Y].toArray⟩) (Nat.le_refl _)
      unfold set4 at X hB
      obtain ⟨x0, x1, x2, x3⟩ := X
      have y0 := cellAl (.cells #[.int .u8 (Z.toNat : Int), .int .u8 ((n : Int) / 3 % 2)] 5) (cellAl (.cells #[.int .i64 1, .int .i64 T, .string ⟨KB.toArray⟩, .string ⟨[Z, Y].toArray⟩] 43) (x0))
      have y1 := cellAl (.cells #[.int .u8 (Z.toNat : Int), .int .u8 ((n : Int) / 3 % 2)] 5) (cellAl (.cells #[.int .i64 1, .int .i64 T, .string ⟨KB.toArray⟩, .string ⟨[Z, Y].toArray⟩] 43) (x1))
      have y2 := cellAl (.cells #[.int .u8 (Z.toNat : Int), .int .u8 ((n : Int) / 3 % 2)] 5) (cellAl (.cells #[.int .i64 1, .int .i64 T, .string ⟨KB.toArray⟩, .string ⟨[Z, Y].toArray⟩] 43) (x2))
      have y3 := cellAl (.cells #[.int .u8 (Z.toNat : Int), .int .u8 ((n : Int) / 3 % 2)] 5) (cellAl (.cells #[.int .i64 1, .int .i64 T, .string ⟨KB.toArray⟩, .string ⟨[Z, Y].toArray⟩] 43) (x3))
      refine bodyPost_ret (v := opV ⟨1, T, KB, [Z, Y]⟩) (by simp [results, Tryd.results44, go_sem, opV, y0, y1, y2, y3]) rfl ⟨by rw [HO2.out], ?_⟩
      exact ((hB).al _).al _
    · have ht1 : (T == 2) = false := by rw [beq_eq_false_iff_ne]; exact hT
      obtain ⟨Y, hY⟩ : ∃ Y : UInt8, (Y.toNat : Int) = (n : Int) ∧ Y = UInt8.ofNat n := ⟨UInt8.ofNat n, by simp; omega, rfl⟩
      have HO2 : Hid (opN c d = ⟨1, T, KB, [1, Y, 0, 9]⟩) := Lib.hid (by rw [HO.out, if_neg hm0, if_neg hT, hY.2])
      have hC : (#[.int .u8 1, .int .u8 (n : Int), .int .u8 0, .int .u8 9] : Array Value).toList = u8s [1, Y, 0, 9] := by simp [u8s, hY.1]
      have HC := Lib.hid hC
      clear hC hY hT hm0 hm4
      go_enter Tryd.func44, Tryd.ntmps44
      go_wp2_with fail
      refine (HK.out _).mono ?_
      rintro e w1 ⟨rfl, hb1⟩
      unfold keyV
      have R1 := Lib.hid (below_at hb1 (by simp) HR0.out)
      have hs1 := hb1.size
      have r0 := cell_of_row _ _ 0 _ _ _ R1.out
      have r1 := cell_of_row _ _ 1 _ _ _ R1.out
      have r2 := cell_of_row _ _ 2 _ _ _ R1.out
      have r3 := cell_of_row _ _ 3 _ _ _ R1.out
      have z0 := frozen_of_row _ _ 0 _ _ R1.out
      have z1 := frozen_of_row _ _ 1 _ _ R1.out
      have z2 := frozen_of_row _ _ 2 _ _ R1.out
      have z3 := frozen_of_row _ _ 3 _ _ R1.out
      have hlr := block_lt R1.out
      have b1 : Below w.heap.size w w1 := ((Below.refl _ w).alloc (Nat.le_refl _) _).trans (hb1.mono (by simp))
      go_wp2_with (first
        | (go_at_call 14; refine (HP.out _ h3 h4 (by omega)).mono ?_; rintro e w2 ⟨rfl, rfl⟩)
        | (refine wpList_string_of rfl (.tmp 14) rfl [1, Y, 0, 9] (by have h := lit_at (w1.alloc (.cells #[.int .i64 1, .int .i64 T, .string ⟨KB.toArray⟩, .string ⟨#[]⟩] 43)) [1, Y, 0, 9] _ 4 rfl HC.out (by omega); rw [World.size_alloc] at h; exact h) ?_))
      have X := set4_at R1.out (.int .i64 1) (.int .i64 T) (.string ⟨KB.toArray⟩) (.string ⟨[1, Y, 0, 9].toArray⟩)
      have hB := set4_below b1 w.heap.size (.int .i64 1) (.int .i64 T) (.string ⟨KB.toArray⟩) (.string ⟨[1, Y, 0, 9].toArray⟩) (Nat.le_refl _)
      unfold set4 at X hB
      obtain ⟨x0, x1, x2, x3⟩ := X
      have y0 := cellAl (.cells #[.int .u8 1, .int .u8 (n : Int), .int .u8 0, .int .u8 9] 5) (cellAl (.cells #[.int .i64 1, .int .i64 T, .string ⟨KB.toArray⟩, .string ⟨[1, Y, 0, 9].toArray⟩] 43) (x0))
      have y1 := cellAl (.cells #[.int .u8 1, .int .u8 (n : Int), .int .u8 0, .int .u8 9] 5) (cellAl (.cells #[.int .i64 1, .int .i64 T, .string ⟨KB.toArray⟩, .string ⟨[1, Y, 0, 9].toArray⟩] 43) (x1))
      have y2 := cellAl (.cells #[.int .u8 1, .int .u8 (n : Int), .int .u8 0, .int .u8 9] 5) (cellAl (.cells #[.int .i64 1, .int .i64 T, .string ⟨KB.toArray⟩, .string ⟨[1, Y, 0, 9].toArray⟩] 43) (x2))
      have y3 := cellAl (.cells #[.int .u8 1, .int .u8 (n : Int), .int .u8 0, .int .u8 9] 5) (cellAl (.cells #[.int .i64 1, .int .i64 T, .string ⟨KB.toArray⟩, .string ⟨[1, Y, 0, 9].toArray⟩] 43) (x3))
      refine bodyPost_ret (v := opV ⟨1, T, KB, [1, Y, 0, 9]⟩) (by simp [results, Tryd.results44, go_sem, opV, y0, y1, y2, y3]) rfl ⟨by rw [HO2.out], ?_⟩
      exact ((hB).al _).al _
end Go.Proofs.YtkkfmkhbdoeglaaDoor
