/- A part of what is proved here: lemmas and contracts of single functions. No condition but those that each names. -/
import Derived.Test.YtkkfmkhbdoeglabGreatDoorG03
namespace Go.Proofs.YtkkfmkhbdoeglabGreatDoor
open Go.RowKit
/-- what the variable of the shapes holds -/
structure ShapesVar (w : World) : Prop where
  two : 2 ≤ w.heap.size
  c0 : w.cell? ⟨1, 0, none⟩ = some (.int .i64 6)
  c1 : w.cell? ⟨1, 1, none⟩ = some (.int .i64 4)
  c2 : w.cell? ⟨1, 2, none⟩ = some (.int .i64 5)
  c3 : w.cell? ⟨1, 3, none⟩ = some (.int .i64 4)
  c4 : w.cell? ⟨1, 4, none⟩ = some (.int .i64 2)
  c5 : w.cell? ⟨1, 5, none⟩ = some (.int .i64 2)
theorem ShapesVar.old {w w' : World} (h : ShapesVar w) (hs : w.heap.size ≤ w'.heap.size) (hb : w'.heap[1]? = w.heap[1]?) : ShapesVar w' := by
  have e : ∀ i, w'.cell? ⟨1, i, none⟩ = w.cell? ⟨1, i, none⟩ := fun i => World.cell?_of_block (a := ⟨1, i, none⟩) hb
  exact ⟨Nat.le_trans h.two hs, by rw [e, h.c0], by rw [e, h.c1], by rw [e, h.c2], by rw [e, h.c3], by rw [e, h.c4], by rw [e, h.c5]⟩
theorem ShapesVar.new {w w' : World} (h : ShapesVar w) (hb : Below w.heap.size w w') : ShapesVar w' :=
  h.old hb.size (hb.block _ (cell_lt h.c0))
theorem ShapesVar.alloc {w : World} (h : ShapesVar w) (o : Obj) : ShapesVar (w.alloc o) := h.new ((Below.refl _ w).alloc (Nat.le_refl _) o)
/-- a key as a value -/
def keyV (t : Int) (k : List UInt8) : Value := .agg #[.int .i64 t, .string ⟨k.toArray⟩]
def keyLen (t : Int) : Nat := if t = 0 then 6 else if t = 1 then 5 else 2
def valLen (t : Int) : Nat := if t = 0 then 4 else if t = 1 then 4 else 2
def isVersionB (v : Nat) : Bool := decide (0 < v) && decide (v < 18446744073709551615)
def isKeyB (t : Int) (k : List UInt8) : Bool :=
  if t = 0 then match k with | [a, _, _, _, _, _] => a.toNat % 2 == 0 | _ => false
  else if t = 1 then match k with | [a, b, c, d, e] => decide (e.toNat ≤ 32) && (be32 a b c d * 2 ^ e.toNat % 4294967296 == 0) | _ => false
  else match k with | [_, _] => true | _ => false
def isValueB (t : Int) (k : List UInt8) : Bool :=
  if t = 2 then match k with | [a, b] => (a.toNat == 0 || a.toNat == 6 || a.toNat == 17) && decide (b.toNat ≤ 1) | _ => false
  else match k with | [a, b, c, d] => be32 a b c d != 0 | _ => false
theorem isKeyB_len {t : Int} {k : List UInt8} (h : k.length ≠ keyLen t) : isKeyB t k = false := by
  unfold isKeyB
  unfold keyLen at h
  split
  · split
    · simp_all
    · rfl
  · split
    · split
      · simp_all
      · rfl
    · split
      · simp_all
      · rfl
theorem isValueB_len {t : Int} {k : List UInt8} (h0 : 0 ≤ t) (h2 : t < 3) (h : k.length ≠ valLen t) : isValueB t k = false := by
  unfold isValueB
  unfold valLen at h
  split
  · split
    · simp_all
    · rfl
  · split
    · exfalso
      have : t = 0 ∨ t = 1 := by omega
      rcases this with rfl | rfl <;> simp_all
    · rfl
theorem isVersion_any (v : Nat) (w : World) : Calls Tryz.prog 158 #[.int .u64 v] w fun e w' => e = .returned (.bool (isVersionB v)) ∧ w = w' := by
  unfold isVersionB
  by_cases h0 : 0 < v
  · by_cases h1 : v < 18446744073709551615
    · have h0' : (0 : Int) < v := by omega
      have h1' : (v : Int) < 18446744073709551615 := by omega
      go_enter Tryz.func158, Tryz.ntmps158
      go_wp2
      go_ret
      exact ⟨by simp [h0, h1], rfl⟩
    · have h0' : (0 : Int) < v := by omega
      have h1' : ¬ (v : Int) < 18446744073709551615 := by omega
      go_enter Tryz.func158, Tryz.ntmps158
      go_wp2
      go_ret
      exact ⟨by simp, rfl⟩
  · obtain rfl : v = 0 := by omega
    go_enter Tryz.func158, Tryz.ntmps158
    go_wp2
    go_ret
    exact ⟨rfl, rfl⟩
set_option maxRecDepth 100000 in
theorem isKey_len (t : Int) (k : List UInt8) (w : World) (hg : ShapesVar w) (h0 : 0 ≤ t) (h2 : t < 3) (hk : k.length ≠ keyLen t) (_hl : k.length ≤ maxB) :
    Calls Tryz.prog 171 #[keyV t k] w fun e w' => e = .returned (.bool false) ∧ Below w.heap.size w w' := by
  unfold keyV
  have hz := hg.two
  have c0 := fun o => (hg.alloc o).c0
  have c2 := fun o => (hg.alloc o).c2
  have c4 := fun o => (hg.alloc o).c4
  unfold keyLen at hk
  unfold maxB at _hl
  have : t = 0 ∨ t = 1 ∨ t = 2 := by omega
  rcases this with rfl | rfl | rfl
  · have hn : ¬ (k.length : Int) = 6 := by simp at hk; omega
    go_enter Tryz.func171, Tryz.ntmps171
    go_wp2
    go_ret
    exact ⟨rfl, (Below.refl _ w).alloc (Nat.le_refl _) _⟩
  · have hn : ¬ (k.length : Int) = 5 := by simp at hk; omega
    go_enter Tryz.func171, Tryz.ntmps171
    go_wp2
    go_ret
    exact ⟨rfl, (Below.refl _ w).alloc (Nat.le_refl _) _⟩
  · have hn : ¬ (k.length : Int) = 2 := by simp at hk; omega
    go_enter Tryz.func171, Tryz.ntmps171
    go_wp2
    go_ret
    exact ⟨rfl, (Below.refl _ w).alloc (Nat.le_refl _) _⟩
theorem length6 {k : List UInt8} (h : k.length = 6) : ∃ a b c d e f, k = [a, b, c, d, e, f] := by
  match k, h with
  | [a, b, c, d, e, f], _ => exact ⟨a, b, c, d, e, f, rfl⟩
theorem length5 {k : List UInt8} (h : k.length = 5) : ∃ a b c d e, k = [a, b, c, d, e] := by
  match k, h with
  | [a, b, c, d, e], _ => exact ⟨a, b, c, d, e, rfl⟩
theorem length4 {k : List UInt8} (h : k.length = 4) : ∃ a b c d, k = [a, b, c, d] := by
  match k, h with
  | [a, b, c, d], _ => exact ⟨a, b, c, d, rfl⟩
theorem length2 {k : List UInt8} (h : k.length = 2) : ∃ a b, k = [a, b] := by
  match k, h with
  | [a, b], _ => exact ⟨a, b, rfl⟩
set_option maxRecDepth 100000 in
theorem isKey_good (t : Int) (k : List UInt8) (w : World) (hg : ShapesVar w) (h0 : 0 ≤ t) (h2 : t < 3) (hk : k.length = keyLen t) :
    Calls Tryz.prog 171 #[keyV t k] w fun e w' => e = .returned (.bool (isKeyB t k)) ∧ Below w.heap.size w w' := by
  unfold keyV isKeyB
  have hz := hg.two
  have c0 := fun o => (hg.alloc o).c0
  have c2 := fun o => (hg.alloc o).c2
  have c4 := fun o => (hg.alloc o).c4
  unfold keyLen at hk
  have : t = 0 ∨ t = 1 ∨ t = 2 := by omega
  rcases this with rfl | rfl | rfl
  · obtain ⟨a, b, c, d, e, f, rfl⟩ := length6 hk
    have ha := a.toNat_lt
    have i0 : ∀ w, (Instr.index 9 (.string ⟨[a, b, c, d, e, f].toArray⟩) (.int .i64 0)).run Tryz.prog w = .ok (.int .u8 a.toNat) w := fun w => run_index_str Tryz.underlying9 _ _ 0 a (by decide) rfl w
    have hx : bits BinOp.and IntKind.u8 (a.toNat : Int) 1 = ((a.toNat % 2 : Nat) : Int) := by
      rw [show (1 : Int) = ((1 : Nat) : Int) from rfl, u8_and_nat _ _ ha (by omega), Nat.and_one_is_mod]
    go_enter Tryz.func171, Tryz.ntmps171
    go_wp2
    go_ret
    have he : ((a.toNat : Int) % 2 == 0) = (a.toNat % 2 == 0) := by
      rcases Nat.mod_two_eq_zero_or_one a.toNat with h | h
      · rw [h, show ((a.toNat : Int) % 2) = 0 by omega]; rfl
      · rw [h, show ((a.toNat : Int) % 2) = 1 by omega]; rfl
    exact ⟨by simp [he], (Below.refl _ w).alloc (Nat.le_refl _) _⟩
  · obtain ⟨a, b, c, d, e, rfl⟩ := length5 hk
    have he := e.toNat_lt
    have i4 : ∀ w, (Instr.index 9 (.string ⟨[a, b, c, d, e].toArray⟩) (.int .i64 4)).run Tryz.prog w = .ok (.int .u8 e.toNat) w := fun w => run_index_str Tryz.underlying9 _ _ 4 e (by decide) rfl w
    by_cases h32 : e.toNat ≤ 32
    · have hi : (e.toNat : Int) ≤ 32 := by omega
      have hq : ((be32 a b c d : Int) * 2 ^ e.toNat % 4294967296 == 0) = (be32 a b c d * 2 ^ e.toNat % 4294967296 == 0) := by
        have e1 : ((be32 a b c d : Int) * 2 ^ e.toNat % 4294967296) = ((be32 a b c d * 2 ^ e.toNat % 4294967296 : Nat) : Int) := by rw [Int.natCast_emod, Int.natCast_mul, Int.natCast_pow]; rfl
        rw [e1]
        cases be32 a b c d * 2 ^ e.toNat % 4294967296
        · rfl
        · simp; omega
      go_enter Tryz.func171, Tryz.ntmps171
      go_wp2
      go_quiet ((first | (go_at_call 150; exact Calls.quiet_of (address_any a b c d [e] _ (by simp)))))
      go_wp2
      go_ret
      exact ⟨by simp, ((Below.refl _ w).alloc (Nat.le_refl _) _).drewN _⟩
    · have hi : ¬ (e.toNat : Int) ≤ 32 := by omega
      have hd : decide ((e.toNat : Int) ≤ 32) = false := decide_eq_false hi
      go_enter Tryz.func171, Tryz.ntmps171
      go_wp2
      go_quiet ((first | (go_at_call 150; exact Calls.quiet_of (address_any a b c d [e] _ (by simp)))))
      go_wp2
      go_ret
      exact ⟨by simp, ((Below.refl _ w).alloc (Nat.le_refl _) _).drewN _⟩
  · obtain ⟨a, b, rfl⟩ := length2 hk
    go_enter Tryz.func171, Tryz.ntmps171
    go_wp2
    go_ret
    exact ⟨rfl, (Below.refl _ w).alloc (Nat.le_refl _) _⟩
theorem isKey_any (t : Int) (k : List UInt8) (w : World) (hg : ShapesVar w) (h0 : 0 ≤ t) (h2 : t < 3) (hl : k.length ≤ maxB) :
    Calls Tryz.prog 171 #[keyV t k] w fun e w' => e = .returned (.bool (isKeyB t k)) ∧ Below w.heap.size w w' := by
  by_cases hk : k.length = keyLen t
  · exact isKey_good t k w hg h0 h2 hk
  · rw [isKeyB_len hk]
    exact isKey_len t k w hg h0 h2 hk hl
set_option maxRecDepth 100000 in
theorem isValue_len (t : Int) (k : List UInt8) (w : World) (hg : ShapesVar w) (h0 : 0 ≤ t) (h2 : t < 3) (hk : k.length ≠ valLen t) (_hl : k.length ≤ maxB) :
    Calls Tryz.prog 172 #[.int .i64 t, .string ⟨k.toArray⟩] w fun e w' => e = .returned (.bool false) ∧ Below w.heap.size w w' := by
  have hz := hg.two
  have c1 := hg.c1
  have c3 := hg.c3
  have c5 := hg.c5
  unfold valLen at hk
  unfold maxB at _hl
  have : t = 0 ∨ t = 1 ∨ t = 2 := by omega
  rcases this with rfl | rfl | rfl
  · have hn : ¬ (k.length : Int) = 4 := by simp at hk; omega
    go_enter Tryz.func172, Tryz.ntmps172
    go_wp2
    go_ret
    exact ⟨rfl, Below.refl _ w⟩
  · have hn : ¬ (k.length : Int) = 4 := by simp at hk; omega
    go_enter Tryz.func172, Tryz.ntmps172
    go_wp2
    go_ret
    exact ⟨rfl, Below.refl _ w⟩
  · have hn : ¬ (k.length : Int) = 2 := by simp at hk; omega
    go_enter Tryz.func172, Tryz.ntmps172
    go_wp2
    go_ret
    exact ⟨rfl, Below.refl _ w⟩
set_option maxRecDepth 100000 in
theorem isValue_addr (t : Int) (a b c d : UInt8) (w : World) (hg : ShapesVar w) (h0 : 0 ≤ t) (h2 : t < 2) :
    Calls Tryz.prog 172 #[.int .i64 t, .string ⟨[a, b, c, d].toArray⟩] w fun e w' => e = .returned (.bool (be32 a b c d != 0)) ∧ Below w.heap.size w w' := by
  have hz := hg.two
  have c1 := hg.c1
  have c3 := hg.c3
  have hq : ((be32 a b c d : Int) != 0) = (be32 a b c d != 0) := by
    cases be32 a b c d
    · rfl
    · rw [Bool.eq_iff_iff]; simp; omega
  have : t = 0 ∨ t = 1 := by omega
  rcases this with rfl | rfl
  all_goals
    go_enter Tryz.func172, Tryz.ntmps172
    go_wp2_with fail
    refine (address_any a b c d [] _ (by simp)).mono ?_
    rintro e w1 ⟨rfl, n, rfl⟩
    go_wp2
    go_ret
    exact ⟨by simp, (Below.refl _ w).drewN _⟩
set_option maxRecDepth 100000 in
theorem isValue_acl (a b : UInt8) (w : World) (hg : ShapesVar w) :
    Calls Tryz.prog 172 #[.int .i64 2, .string ⟨[a, b].toArray⟩] w fun e w' => e = .returned (.bool ((a.toNat == 0 || a.toNat == 6 || a.toNat == 17) && decide (b.toNat ≤ 1))) ∧ Below w.heap.size w w' := by
  have hz := hg.two
  have c5 := hg.c5
  have i0 : ∀ w, (Instr.index 9 (.string ⟨[a, b].toArray⟩) (.int .i64 0)).run Tryz.prog w = .ok (.int .u8 a.toNat) w := fun w => run_index_str Tryz.underlying9 _ _ 0 a (by decide) rfl w
  have i1 : ∀ w, (Instr.index 9 (.string ⟨[a, b].toArray⟩) (.int .i64 1)).run Tryz.prog w = .ok (.int .u8 b.toNat) w := fun w => run_index_str Tryz.underlying9 _ _ 1 b (by decide) rfl w
  have hd : decide ((b.toNat : Int) ≤ 1) = decide (b.toNat ≤ 1) := by
    rw [Bool.eq_iff_iff]; simp; omega
  have hc : ∀ n : Nat, ((a.toNat : Int) == n) = (a.toNat == n) := fun n => by
    rw [Bool.eq_iff_iff, beq_iff_eq, beq_iff_eq]; omega
  have h0 := hc 0
  have h6 := hc 6
  have h17 := hc 17
  have ha := a.toNat_lt
  have hb := b.toNat_lt
  clear hc
  cases k0 : (a.toNat == 0) <;> cases k6 : (a.toNat == 6) <;> cases k17 : (a.toNat == 17)
  all_goals
    rw [k0] at h0
    rw [k6] at h6
    rw [k17] at h17
    have e0 : ((a.toNat : Int) == 0) = _ := h0
    have e6 : ((a.toNat : Int) == 6) = _ := h6
    have e17 : ((a.toNat : Int) == 17) = _ := h17
    clear h0 h6 h17 k0 k6 k17
    go_enter Tryz.func172, Tryz.ntmps172
    go_wp2
    go_ret
    exact ⟨by simp, Below.refl _ w⟩
theorem isValue_any (t : Int) (k : List UInt8) (w : World) (hg : ShapesVar w) (h0 : 0 ≤ t) (h2 : t < 3) (hl : k.length ≤ maxB) :
    Calls Tryz.prog 172 #[.int .i64 t, .string ⟨k.toArray⟩] w fun e w' => e = .returned (.bool (isValueB t k)) ∧ Below w.heap.size w w' := by
  by_cases hk : k.length = valLen t
  · by_cases ht : t = 2
    · subst ht
      obtain ⟨a, b, rfl⟩ := length2 hk
      exact isValue_acl a b w hg
    · have h4 : k.length = 4 := by unfold valLen at hk; split at hk <;> simp_all; omega
      obtain ⟨a, b, c, d, rfl⟩ := length4 h4
      have e : isValueB t [a, b, c, d] = (be32 a b c d != 0) := by unfold isValueB; rw [if_neg ht]
      rw [e]
      exact isValue_addr t a b c d w hg h0 (by omega)
  · rw [isValueB_len h0 h2 hk]
    exact isValue_len t k w hg h0 h2 hk hl
end Go.Proofs.YtkkfmkhbdoeglabGreatDoor
namespace Go.Proofs.YtkkfmkhbdoeglabGreatDoor
open Go.RowKit
/-- a number in eight bytes, the highest first -/
def be8 (v : Nat) : List UInt8 := (List.range 8).map fun i => UInt8.ofNat (v / 2 ^ (56 - 8 * i))
theorem be8_length (v : Nat) : (be8 v).length = 8 := by simp [be8]
theorem one_at (w : World) (k : UInt8) : BytesAt (w.alloc (.cells #[.int .u8 (k.toNat : Int)] 5)) (.slice (some ⟨w.heap.size, 0, none⟩) 1 1) [k] :=
  (OwnS.new w #[.int .u8 (k.toNat : Int)] 5 0 0 0 1 1 1 (Nat.zero_le _) (by omega) (by decide) (by simp) (.inl (by omega))).bytes (l := [k])
end Go.Proofs.YtkkfmkhbdoeglabGreatDoor
