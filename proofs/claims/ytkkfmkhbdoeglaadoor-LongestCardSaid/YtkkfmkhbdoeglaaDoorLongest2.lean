/- The walk of package overlaykeep's Longest. No condition. -/
import Derived.Test.YtkkfmkhbdoeglaaDoorLongest
namespace Go.Proofs.YtkkfmkhbdoeglaaDoor
open Go.RowKit

/-- what holds at Longest's loop -/
def LongRel (w2 : World) (fb q r u A : Nat) (l : List Int) (best value i : Value) (wr : World) : Prop :=
  ∃ (k : Nat) (S : List E) (b : Int) (v : List UInt8) (L : List (List UInt8)), i = .int .i64 (k : Int) ∧ k ≤ l.length ∧ k ≤ 40 ∧ best = .int .i64 b ∧ -1 ≤ b ∧ b ≤ 32 ∧ value = .string ⟨v.toArray⟩ ∧ v.length ≤ 4 ∧
    FoldAt wr fb q r S ∧ LongInv A S b v ∧ UsedAt wr u k L ∧ (∀ s, s ∈ L ↔ ∃ x, ((1, s), x) ∈ S) ∧ Ext (fun j => j = r ∨ j = u) w2 wr
/-- what holds at the loop that clears bits -/
def MaskRel (w3 : World) (P n N : Nat) (i : Value) (wi : World) : Prop :=
  ∃ (k : Nat) (a b c d : UInt8), n ≤ k ∧ k ≤ 32 ∧ i = .int .i64 (k : Int) ∧ wi.heap[P]? = some (.cells #[.int .u8 a.toNat, .int .u8 b.toNat, .int .u8 c.toNat, .int .u8 d.toNat, .int .u8 (n : Int)] 5 (0, 0)) ∧ be32 a b c d = maskN N n k ∧ Ext (fun j => j = P) w3 wi
theorem MaskRel.step {w3 wi : World} {P n N k : Nat} {a b c d a' b' c' d' : UInt8} {o : Nat} {z : Int} (h1 : n ≤ k) (h2 : k < 32) (hb : be32 a b c d = maskN N n k) (hx : Ext (fun j => j = P) w3 wi)
    (hr : (wi.setCell ⟨P, o, none⟩ (.int .u8 z)).heap[P]? = some (.cells #[.int .u8 a'.toNat, .int .u8 b'.toNat, .int .u8 c'.toNat, .int .u8 d'.toNat, .int .u8 (n : Int)] 5 (0, 0)))
    (hn : be32 a' b' c' d' + be32 a b c d / 2 ^ (31 - k) % 2 * 2 ^ (31 - k) = be32 a b c d) : MaskRel w3 P n N (.int .i64 ((k + 1 : Nat) : Int)) (wi.setCell ⟨P, o, none⟩ (.int .u8 z)).drew := by
  refine ⟨k + 1, a', b', c', d', by omega, by omega, rfl, hr, ?_, (hx.setCell _ _ (.inl rfl)).drew⟩
  have := maskN_step N n k h1 h2
  rw [hb] at hn
  omega
theorem clear0 (a b c d a' : UInt8) (k j : Nat) (hk : k = 0 + j) (hj : j < 8) (h : a'.toNat + a.toNat / 2 ^ (7 - j) % 2 * 2 ^ (7 - j) = a.toNat) : be32 a' b c d + be32 a b c d / 2 ^ (31 - k) % 2 * 2 ^ (31 - k) = be32 a b c d := by
  obtain ⟨y, h1, h2⟩ := bit_at a b c d [] k (by omega)
  rw [show k / 8 = 0 by omega] at h1
  rw [show k % 8 = j by omega] at h2
  simp at h1
  subst h1
  rw [← h2, show 31 - k = (7 - j) + 24 by omega, Nat.pow_add, ← Nat.mul_assoc]
  unfold be32
  generalize a.toNat / 2 ^ (7 - j) % 2 * 2 ^ (7 - j) = t at *
  omega
theorem clear1 (a b c d b' : UInt8) (k j : Nat) (hk : k = 8 + j) (hj : j < 8) (h : b'.toNat + b.toNat / 2 ^ (7 - j) % 2 * 2 ^ (7 - j) = b.toNat) : be32 a b' c d + be32 a b c d / 2 ^ (31 - k) % 2 * 2 ^ (31 - k) = be32 a b c d := by
  obtain ⟨y, h1, h2⟩ := bit_at a b c d [] k (by omega)
  rw [show k / 8 = 1 by omega] at h1
  rw [show k % 8 = j by omega] at h2
  simp at h1
  subst h1
  rw [← h2, show 31 - k = (7 - j) + 16 by omega, Nat.pow_add, ← Nat.mul_assoc]
  unfold be32
  generalize b.toNat / 2 ^ (7 - j) % 2 * 2 ^ (7 - j) = t at *
  omega
theorem clear2 (a b c d c' : UInt8) (k j : Nat) (hk : k = 16 + j) (hj : j < 8) (h : c'.toNat + c.toNat / 2 ^ (7 - j) % 2 * 2 ^ (7 - j) = c.toNat) : be32 a b c' d + be32 a b c d / 2 ^ (31 - k) % 2 * 2 ^ (31 - k) = be32 a b c d := by
  obtain ⟨y, h1, h2⟩ := bit_at a b c d [] k (by omega)
  rw [show k / 8 = 2 by omega] at h1
  rw [show k % 8 = j by omega] at h2
  simp at h1
  subst h1
  rw [← h2, show 31 - k = (7 - j) + 8 by omega, Nat.pow_add, ← Nat.mul_assoc]
  unfold be32
  generalize c.toNat / 2 ^ (7 - j) % 2 * 2 ^ (7 - j) = t at *
  omega
theorem clear3 (a b c d d' : UInt8) (k j : Nat) (hk : k = 24 + j) (hj : j < 8) (h : d'.toNat + d.toNat / 2 ^ (7 - j) % 2 * 2 ^ (7 - j) = d.toNat) : be32 a b c d' + be32 a b c d / 2 ^ (31 - k) % 2 * 2 ^ (31 - k) = be32 a b c d := by
  obtain ⟨y, h1, h2⟩ := bit_at a b c d [] k (by omega)
  rw [show k / 8 = 3 by omega] at h1
  rw [show k % 8 = j by omega] at h2
  simp at h1
  subst h1
  rw [← h2, show 31 - k = (7 - j) + 0 by omega, Nat.pow_add, ← Nat.mul_assoc]
  unfold be32
  generalize d.toNat / 2 ^ (7 - j) % 2 * 2 ^ (7 - j) = t at *
  omega
end Go.Proofs.YtkkfmkhbdoeglaaDoor
