/- A part of what is proved here: lemmas and contracts of single functions. No condition but those that each names. -/
import Derived.BigQuiet
import Derived.Deep.QuietTactic
import Derived.Deep.RegionHeld3
import Derived.Test.YtkkfmkhbdoeglabGreatDoorG01
import Derived.Test.YtkkfmkhbdoeglabGreatDoorG02
namespace Go.Proofs.YtkkfmkhbdoeglabGreatDoor
open Go.RowKit
/-- four bytes as a number, the highest first -/
def be32 (a b c d : UInt8) : Nat := a.toNat * 16777216 + b.toNat * 65536 + c.toNat * 256 + d.toNat
theorem be32_or (a b c d : UInt8) : bits BinOp.or IntKind.u32 (bits BinOp.or IntKind.u32 (bits BinOp.or IntKind.u32 ((a.toNat : Int) * 16777216) ((b.toNat : Int) * 65536)) ((c.toNat : Int) * 256)) (d.toNat : Int) = (be32 a b c d : Int) := by
  have ha := a.toNat_lt
  have hb := b.toNat_lt
  have hc := c.toNat_lt
  have hd := d.toNat_lt
  have j1 : a.toNat * 16777216 ||| b.toNat * 65536 = a.toNat * 16777216 + b.toNat * 65536 := nat_join 24 _ _ (by omega) (by omega)
  have j2 : (a.toNat * 16777216 + b.toNat * 65536) ||| c.toNat * 256 = a.toNat * 16777216 + b.toNat * 65536 + c.toNat * 256 := nat_join 16 _ _ (by omega) (by omega)
  have j3 : (a.toNat * 16777216 + b.toNat * 65536 + c.toNat * 256) ||| d.toNat = a.toNat * 16777216 + b.toNat * 65536 + c.toNat * 256 + d.toNat := nat_join 8 _ _ (by omega) (by omega)
  rw [show ((a.toNat : Int) * 16777216) = ((a.toNat * 16777216 : Nat) : Int) by omega, show ((b.toNat : Int) * 65536) = ((b.toNat * 65536 : Nat) : Int) by omega, show ((c.toNat : Int) * 256) = ((c.toNat * 256 : Nat) : Int) by omega,
    u32_or_nat _ _ (by omega) (by omega), j1, u32_or_nat _ _ (by omega) (by omega), j2, u32_or_nat _ _ (by omega) (by omega), j3]
  rfl
set_option maxHeartbeats 400000 in
theorem address_any (a b c d : UInt8) (r : List UInt8) (w : World) (_hr : r.length ≤ 9223372036854775000) :
    Calls Tryz.prog 150 #[.string ⟨(a :: b :: c :: d :: r).toArray⟩] w fun e w' => e = .returned (.int .u32 (be32 a b c d)) ∧ ∃ n, w' = w.drewN n := by
  have ha := a.toNat_lt
  have hb := b.toNat_lt
  have hc := c.toNat_lt
  have hd := d.toNat_lt
  go_enter Tryz.func150, Tryz.ntmps150
  go_wp2
  have i0 : ∀ w, (Instr.index 9 (.string ⟨(a :: b :: c :: d :: r).toArray⟩) (.int .i64 0)).run Tryz.prog w = .ok (.int .u8 a.toNat) w := fun w => run_index_str Tryz.underlying9 _ _ 0 a (by decide) rfl w
  have i1 : ∀ w, (Instr.index 9 (.string ⟨(a :: b :: c :: d :: r).toArray⟩) (.int .i64 1)).run Tryz.prog w = .ok (.int .u8 b.toNat) w := fun w => run_index_str Tryz.underlying9 _ _ 1 b (by decide) rfl w
  have i2 : ∀ w, (Instr.index 9 (.string ⟨(a :: b :: c :: d :: r).toArray⟩) (.int .i64 2)).run Tryz.prog w = .ok (.int .u8 c.toNat) w := fun w => run_index_str Tryz.underlying9 _ _ 2 c (by decide) rfl w
  have i3 : ∀ w, (Instr.index 9 (.string ⟨(a :: b :: c :: d :: r).toArray⟩) (.int .i64 3)).run Tryz.prog w = .ok (.int .u8 d.toNat) w := fun w => run_index_str Tryz.underlying9 _ _ 3 d (by decide) rfl w
  go_quiet (fail)
  go_wp2
  go_ret
  exact ⟨ret_int (be32_or a b c d), _, rfl⟩
set_option maxHeartbeats 400000 in
theorem fault_any (k n : Int) (w : World) :
    Calls Tryz.prog 107 #[.int .i64 k, .int .i64 n] w fun e w' => e = .returned (.pointer (some ⟨w.heap.size, 0, none⟩)) ∧ w' = w.alloc (.cells #[.int .i64 k, .int .i64 n, .nilIface] 186) := by
  go_enter Tryz.func107, Tryz.ntmps107
  go_wp2
  go_ret
  exact ⟨rfl, rfl⟩
/-- a frame -/
def be4 (n : Nat) : List UInt8 := [UInt8.ofNat (n / 16777216), UInt8.ofNat (n / 65536), UInt8.ofNat (n / 256), UInt8.ofNat n]
def sealB (kind : UInt8) (l : List UInt8) : List UInt8 := kind :: l ++ be4 (crc (kind :: l))
/-- an error that is a fault of that kind and place, in a block from base on -/
def FaultAt (w : World) (base : Nat) (v : Value) (k n : Int) : Prop :=
  ∃ g, v = .iface 171 (.pointer (some ⟨g, 0, none⟩)) ∧ base ≤ g ∧ w.heap[g]? = some (.cells #[.int .i64 k, .int .i64 n, .nilIface] 186 (0, 0))
theorem FaultAt.new (w : World) (base : Nat) (k n : Int) (h : base ≤ w.heap.size) : FaultAt (w.alloc (.cells #[.int .i64 k, .int .i64 n, .nilIface] 186)) base (.iface 171 (.pointer (some ⟨w.heap.size, 0, none⟩))) k n :=
  ⟨_, rfl, h, heap_new _ _⟩
/-- what a frame is: its kind and its body, or a fault and where -/
def unsealB (l : List UInt8) : (UInt8 × List UInt8) ⊕ (Nat × Nat) :=
  if l.length < 5 then .inr (1, l.length)
  else match l.drop (l.length - 4) with
    | [a, b, c, d] => if crc (l.take (l.length - 4)) = be32 a b c d then .inl (l.headD 0, (l.take (l.length - 4)).drop 1) else .inr (3, l.length - 4)
    | _ => .inr (0, 0)
theorem be4_eq (n : Nat) (hn : n < 4294967296) (a b c d : UInt8) : be4 n = [a, b, c, d] ↔ n = be32 a b c d := by
  have ha := a.toNat_lt
  have hb := b.toNat_lt
  have hc := c.toNat_lt
  have hd := d.toNat_lt
  unfold be4 be32
  constructor
  · intro h
    simp only [List.cons.injEq, and_true] at h
    obtain ⟨h1, h2, h3, h4⟩ := h
    have e1 := congrArg UInt8.toNat h1
    have e2 := congrArg UInt8.toNat h2
    have e3 := congrArg UInt8.toNat h3
    have e4 := congrArg UInt8.toNat h4
    simp at e1 e2 e3 e4
    omega
  · intro h
    simp only [List.cons.injEq, and_true, ← UInt8.toNat_inj]
    simp
    omega
end Go.Proofs.YtkkfmkhbdoeglabGreatDoor
