/- The sum of P5 as a function on lists of bytes: it is linear, and one byte another gives another sum. No condition. -/
namespace Go.Proofs.YtkkfmkhbdoeglaaGreatDoor
/-- one halving -/
def stepC (c : Nat) : Nat := if c % 2 = 1 then (c / 2) ^^^ 3988292384 else c / 2
def stepN : Nat → Nat → Nat
  | 0, c => c
  | n + 1, c => stepC (stepN n c)
theorem xor_half (a b : Nat) : (a ^^^ b) / 2 = (a / 2) ^^^ (b / 2) := by
  apply Nat.eq_of_testBit_eq; intro i
  simp [Nat.testBit_div_two]
theorem xor_odd (a b : Nat) : (a ^^^ b) % 2 = (a % 2 + b % 2) % 2 := by
  have h := Nat.testBit_xor a b 0
  simp only [Nat.testBit_zero] at h
  rcases Nat.mod_two_eq_zero_or_one a with ha | ha <;> rcases Nat.mod_two_eq_zero_or_one b with hb | hb <;> rcases Nat.mod_two_eq_zero_or_one (a ^^^ b) with hc | hc <;> simp_all
theorem xor_lc (a b c : Nat) : a ^^^ (b ^^^ c) = b ^^^ (a ^^^ c) := by rw [← Nat.xor_assoc, Nat.xor_comm a b, Nat.xor_assoc]
theorem stepC_xor (a b : Nat) : stepC (a ^^^ b) = stepC a ^^^ stepC b := by
  unfold stepC
  rw [xor_odd, xor_half]
  rcases Nat.mod_two_eq_zero_or_one a with ha | ha <;> rcases Nat.mod_two_eq_zero_or_one b with hb | hb <;> simp [ha, hb, Nat.xor_assoc, Nat.xor_comm, xor_lc]
theorem stepN_xor (n a b : Nat) : stepN n (a ^^^ b) = stepN n a ^^^ stepN n b := by
  induction n with
  | zero => rfl
  | succ n ih => simp only [stepN, ih, stepC_xor]
theorem stepC_double (a : Nat) : stepC (2 * a) = a := by unfold stepC; rw [if_neg (by omega)]; omega
theorem stepN_shift (n a : Nat) : stepN n (2 ^ n * a) = a := by
  induction n generalizing a with
  | zero => simp [stepN]
  | succ n ih =>
    have h : 2 ^ (n + 1) * a = 2 ^ n * (2 * a) := by rw [Nat.pow_succ, Nat.mul_assoc]
    rw [stepN, h, ih, stepC_double]
theorem stepC_lt (c : Nat) (h : c < 4294967296) : stepC c < 4294967296 := by
  unfold stepC
  split
  · exact Nat.xor_lt_two_pow (n := 32) (by omega) (by decide)
  · omega
theorem stepN_lt (n c : Nat) (h : c < 4294967296) : stepN n c < 4294967296 := by
  induction n with
  | zero => exact h
  | succ n ih => exact stepC_lt _ ih
theorem split256 (c : Nat) : c = (c % 256) ^^^ (256 * (c / 256)) := by
  have h : c = 2 ^ 8 * (c / 256) + c % 256 := by omega
  have h2 := Nat.two_pow_add_eq_or_of_lt (i := 8) (b := c % 256) (by omega) (c / 256)
  have h3 : 2 ^ 8 * (c / 256) ||| c % 256 = 2 ^ 8 * (c / 256) ^^^ c % 256 := by
    apply Nat.eq_of_testBit_eq; intro i
    rw [Nat.testBit_or, Nat.testBit_xor]
    by_cases hi : i < 8
    · have : (2 ^ 8 * (c / 256)).testBit i = false := by rw [Nat.testBit_two_pow_mul]; simp; omega
      simp [this]
    · have : (c % 256).testBit i = false := Nat.testBit_lt_two_pow (Nat.lt_of_lt_of_le (show c % 256 < 2 ^ 8 by omega) (Nat.pow_le_pow_right (by decide) (by omega)))
      simp [this]
  rw [Nat.xor_comm]
  exact h.trans (h2.trans h3)
/-- the table step is the bitwise one -/
theorem byte_step (c x : Nat) : stepN 8 (c ^^^ x) = stepN 8 ((c % 256) ^^^ x) ^^^ (c / 256) := by
  conv => lhs; rw [split256 c]
  rw [show c % 256 ^^^ 256 * (c / 256) ^^^ x = (c % 256 ^^^ x) ^^^ (2 ^ 8 * (c / 256)) by
    rw [Nat.xor_assoc, Nat.xor_comm (256 * (c / 256)) x, ← Nat.xor_assoc]]
  rw [stepN_xor, stepN_shift]
/-- the sum's state behind some bytes -/
def crcFrom (c : Nat) (l : List UInt8) : Nat := l.foldl (fun c x => stepN 8 (c ^^^ x.toNat)) c
def crc (l : List UInt8) : Nat := crcFrom 4294967295 l ^^^ 4294967295
theorem crcFrom_lt (l : List UInt8) : ∀ c, c < 4294967296 → crcFrom c l < 4294967296 := by
  induction l with
  | nil => intro c h; exact h
  | cons x l ih =>
    intro c h
    exact ih _ (stepN_lt 8 _ (Nat.xor_lt_two_pow (n := 32) (by omega) (by have := x.toNat_lt; omega)))
theorem crc_lt (l : List UInt8) : crc l < 4294967296 := Nat.xor_lt_two_pow (n := 32) (crcFrom_lt l _ (by decide)) (by decide)
theorem crcFrom_snoc (c : Nat) (l : List UInt8) (x : UInt8) : crcFrom c (l ++ [x]) = stepN 8 (crcFrom c l ^^^ x.toNat) := by
  simp [crcFrom, List.foldl_append]
/-- nothing is lost in a step -/
theorem stepC_zero (c : Nat) (h : c < 4294967296) (e : stepC c = 0) : c = 0 := by
  unfold stepC at e
  split at e
  · have : c / 2 = 3988292384 := by
      have h2 := congrArg (· ^^^ 3988292384) e
      simpa [Nat.xor_assoc, Nat.xor_self] using h2
    omega
  · omega
theorem stepN_zero (n c : Nat) (h : c < 4294967296) (e : stepN n c = 0) : c = 0 := by
  induction n with
  | zero => exact e
  | succ n ih => exact ih (stepC_zero _ (stepN_lt n c h) e)
theorem xor_eq_zero {a b : Nat} (h : a ^^^ b = 0) : a = b := by
  have h2 := congrArg (· ^^^ b) h
  simpa [Nat.xor_assoc, Nat.xor_self] using h2
theorem stepN_inj (n a b : Nat) (ha : a < 4294967296) (hb : b < 4294967296) (e : stepN n a = stepN n b) : a = b := by
  apply xor_eq_zero
  apply stepN_zero n _ (Nat.xor_lt_two_pow (n := 32) ha hb)
  rw [stepN_xor, e, Nat.xor_self]
theorem crcFrom_inj (l : List UInt8) : ∀ a b, a < 4294967296 → b < 4294967296 → crcFrom a l = crcFrom b l → a = b := by
  induction l with
  | nil => intro a b _ _ h; exact h
  | cons x l ih =>
    intro a b ha hb h
    have hx := x.toNat_lt
    have la : a ^^^ x.toNat < 4294967296 := Nat.xor_lt_two_pow (n := 32) (by omega) (by omega)
    have lb : b ^^^ x.toNat < 4294967296 := Nat.xor_lt_two_pow (n := 32) (by omega) (by omega)
    have h1 := ih _ _ (stepN_lt 8 _ la) (stepN_lt 8 _ lb) h
    have h2 := stepN_inj 8 _ _ la lb h1
    have h3 := congrArg (· ^^^ x.toNat) h2
    simpa [Nat.xor_assoc, Nat.xor_self] using h3
/-- one byte another: another sum -/
theorem crc_byte (p q : List UInt8) (x y : UInt8) (e : crc (p ++ x :: q) = crc (p ++ y :: q)) : x = y := by
  have h1 : crcFrom 4294967295 (p ++ x :: q) = crcFrom 4294967295 (p ++ y :: q) := by
    have h2 := congrArg (· ^^^ 4294967295) e
    simpa [crc, Nat.xor_assoc, Nat.xor_self] using h2
  simp only [crcFrom, List.foldl_append, List.foldl_cons] at h1
  have hp := crcFrom_lt p 4294967295 (by decide)
  have hx := x.toNat_lt
  have hy := y.toNat_lt
  have la : crcFrom 4294967295 p ^^^ x.toNat < 4294967296 := Nat.xor_lt_two_pow (n := 32) hp (by omega)
  have lb : crcFrom 4294967295 p ^^^ y.toNat < 4294967296 := Nat.xor_lt_two_pow (n := 32) hp (by omega)
  have h3 := crcFrom_inj q _ _ (stepN_lt 8 _ la) (stepN_lt 8 _ lb) h1
  have h4 := stepN_inj 8 _ _ la lb h3
  have h5 := congrArg (crcFrom 4294967295 p ^^^ ·) h4
  simp only [← Nat.xor_assoc, Nat.xor_self, Nat.zero_xor] at h5
  exact UInt8.toNat_inj.1 h5
end Go.Proofs.YtkkfmkhbdoeglaaGreatDoor
