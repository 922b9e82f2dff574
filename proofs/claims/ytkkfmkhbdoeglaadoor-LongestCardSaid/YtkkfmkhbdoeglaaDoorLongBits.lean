/- Single bits of bytes, as the operations on bytes tell them. No condition. -/
import Derived.Test.YtkkfmkhbdoeglaaDoorLongPlain
namespace Go.Proofs.YtkkfmkhbdoeglaaDoor
open Go.RowKit

theorem andNot_fin : ∀ (y : Fin 256) (j : Fin 8), bits BinOp.andNot IntKind.u8 (y.1 : Int) (128 / 2 ^ j.1) = ((y.1 - y.1 / 2 ^ (7 - j.1) % 2 * 2 ^ (7 - j.1) : Nat) : Int) := by decide +kernel
theorem and_fin : ∀ (y : Fin 256) (j : Fin 8), bits BinOp.and IntKind.u8 (y.1 : Int) (128 / 2 ^ j.1) = ((y.1 / 2 ^ (7 - j.1) % 2 * 2 ^ (7 - j.1) : Nat) : Int) := by decide +kernel
theorem u8_andNot (y : UInt8) (j : Nat) (hj : j < 8) : ∃ z : UInt8, bits BinOp.andNot IntKind.u8 (y.toNat : Int) (128 / 2 ^ j) = (z.toNat : Int) ∧ z.toNat + y.toNat / 2 ^ (7 - j) % 2 * 2 ^ (7 - j) = y.toNat := by
  have h := andNot_fin ⟨y.toNat, y.toNat_lt⟩ ⟨j, hj⟩
  simp only at h
  have hle : y.toNat / 2 ^ (7 - j) % 2 * 2 ^ (7 - j) ≤ y.toNat := Nat.le_trans (Nat.mul_le_mul_right _ (Nat.mod_le _ _)) (Nat.div_mul_le_self _ _)
  have hy := y.toNat_lt
  generalize y.toNat / 2 ^ (7 - j) % 2 * 2 ^ (7 - j) = t at *
  refine ⟨UInt8.ofNat (y.toNat - t), ?_, ?_⟩
  · rw [h]
    simp
    omega
  · simp
    omega
theorem xor_u8 (a b : UInt8) : bits BinOp.xor IntKind.u8 (a.toNat : Int) (b.toNat : Int) = ((a ^^^ b).toNat : Int) := by
  have ha := a.toNat_lt
  have hb := b.toNat_lt
  rw [UInt8.toNat_xor]
  exact u8_xor_nat _ _ (by omega) (by omega)
theorem u8_holds (x y : UInt8) (j : Nat) (hj : j < 8) : (bits BinOp.and IntKind.u8 (bits BinOp.xor IntKind.u8 (x.toNat : Int) (y.toNat : Int)) (128 / 2 ^ j) == 0) = decide (x.toNat / 2 ^ (7 - j) % 2 = y.toNat / 2 ^ (7 - j) % 2) := by
  rw [xor_u8]
  have h := and_fin ⟨(x ^^^ y).toNat, (x ^^^ y).toNat_lt⟩ ⟨j, hj⟩
  simp only at h
  rw [h]
  have hp := Nat.two_pow_pos (7 - j)
  have hx : (x ^^^ y).toNat / 2 ^ (7 - j) % 2 = (x.toNat / 2 ^ (7 - j) % 2 + y.toNat / 2 ^ (7 - j) % 2) % 2 := by
    have h1 : (x ^^^ y).toNat.testBit (7 - j) = (x.toNat.testBit (7 - j) ^^ y.toNat.testBit (7 - j)) := by
      rw [UInt8.toNat_xor, Nat.testBit_xor]
    rw [Nat.testBit_eq_decide_div_mod_eq, Nat.testBit_eq_decide_div_mod_eq, Nat.testBit_eq_decide_div_mod_eq] at h1
    have a1 : (x ^^^ y).toNat / 2 ^ (7 - j) % 2 < 2 := Nat.mod_lt _ (by decide)
    have a2 : x.toNat / 2 ^ (7 - j) % 2 < 2 := Nat.mod_lt _ (by decide)
    have a3 : y.toNat / 2 ^ (7 - j) % 2 < 2 := Nat.mod_lt _ (by decide)
    generalize (x ^^^ y).toNat / 2 ^ (7 - j) % 2 = p at *
    generalize x.toNat / 2 ^ (7 - j) % 2 = q at *
    generalize y.toNat / 2 ^ (7 - j) % 2 = r at *
    have : p = 0 ∨ p = 1 := by omega
    have : q = 0 ∨ q = 1 := by omega
    have : r = 0 ∨ r = 1 := by omega
    rcases ‹p = 0 ∨ p = 1› with rfl | rfl <;> rcases ‹q = 0 ∨ q = 1› with rfl | rfl <;> rcases ‹r = 0 ∨ r = 1› with rfl | rfl <;> simp at h1 ⊢
  rw [hx]
  have a2 : x.toNat / 2 ^ (7 - j) % 2 < 2 := Nat.mod_lt _ (by decide)
  have a3 : y.toNat / 2 ^ (7 - j) % 2 < 2 := Nat.mod_lt _ (by decide)
  generalize x.toNat / 2 ^ (7 - j) % 2 = q at *
  generalize y.toNat / 2 ^ (7 - j) % 2 = r at *
  generalize 2 ^ (7 - j) = m at *
  have : q = 0 ∨ q = 1 := by omega
  have : r = 0 ∨ r = 1 := by omega
  rcases ‹q = 0 ∨ q = 1› with rfl | rfl <;> rcases ‹r = 0 ∨ r = 1› with rfl | rfl <;> simp <;> omega
end Go.Proofs.YtkkfmkhbdoeglaaDoor
