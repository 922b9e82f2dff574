/- Contracts of the frames' functions: halved, sum, address, fault, Seal, Unseal. -/
import Derived.Test.YtkkfmkhbdoeglaaGreatDoorCrc
import Derived.Test.YtkkfmkhbdoeglaaGreatDoorHeap
import Derived.Deep.QuietTactic
import Derived.BigQuiet
import Derived.Deep.RegionHeld3
namespace Go.Proofs.YtkkfmkhbdoeglaaGreatDoor
open Go.RowKit

set_option maxHeartbeats 400000 in
theorem halved_any (b : Nat) (hb : b < 256) (w : World) :
    Calls Tryz.prog 135 #[.int .u8 b] w fun e w' => e = .returned (.int .u32 (stepN 8 b)) ∧ w = w' := by
  go_enter Tryz.func135, Tryz.ntmps135
  go_wp2
  go_loop [3, 7] (fun c i => ∃ k : Nat, k ≤ 8 ∧ i = .int .i64 k ∧ c = .int .u32 (stepN k b)) (fun _ i => 8 - (intOf i).toNat)
  case atStart => exact ⟨0, by omega, rfl, by simp [stepN]⟩
  case round =>
    obtain ⟨k, hk, rfl, rfl⟩ := hrel
    by_cases h : k < 8
    · have hlt := stepN_lt k b (by omega)
      have hs : stepN (k + 1) b = stepC (stepN k b) := rfl
      have H := Lib.hid hs
      clear hs
      generalize stepN k b = c at *
      have ha : bits BinOp.and IntKind.u32 (c : Int) 1 = ((c % 2 : Nat) : Int) := by
        rw [show (1 : Int) = ((1 : Nat) : Int) from rfl, u32_and_nat c 1 hlt (by decide), nat_mask1]
      have hx : bits BinOp.xor IntKind.u32 ((c : Int) / 2) 3988292384 = (((c / 2) ^^^ 3988292384 : Nat) : Int) := by
        rw [show (3988292384 : Int) = ((3988292384 : Nat) : Int) from rfl, show ((c : Int) / 2) = ((c / 2 : Nat) : Int) by omega, u32_xor_nat (c / 2) _ (by omega) (by decide)]
      go_wp2
      · rename_i h1
        have h2 : c % 2 = 1 := by have := beq_iff_eq.1 h1; omega
        go_round
        case rel => exact ⟨k + 1, by omega, by go_num, by rw [H.out, stepC, if_pos h2]⟩
        case measure => simp [intOf]; omega
      · rename_i h1
        have h2 : ¬ c % 2 = 1 := by have := beq_eq_false_iff_ne.1 h1; omega
        go_round
        case rel => exact ⟨k + 1, by omega, by go_num, by rw [H.out, stepC, if_neg h2]; go_num⟩
        case measure => simp [intOf]; omega
    · obtain rfl : k = 8 := by omega
      go_wp2
      go_ret
      exact ⟨by rfl, rfl⟩

/-- what the sum's loop does to its state -/
theorem sum_step (c : Nat) (x : UInt8) : stepN 8 ((c % 256) ^^^ x.toNat) ^^^ (c / 256) = stepN 8 (c ^^^ x.toNat) := (byte_step c x.toNat).symm
theorem crcFrom_take (c : Nat) (l : List UInt8) (k : Nat) (h : k < l.length) : crcFrom c (l.take (k + 1)) = stepN 8 (crcFrom c (l.take k) ^^^ l[k].toNat) := by
  rw [List.take_succ_eq_append_getElem h, crcFrom_snoc]

set_option maxHeartbeats 400000 in
theorem sum_any (v : Value) (l : List UInt8) (w : World) (hv : BytesAt w v l) (hl : l.length ≤ 9223372036854775807) :
    Calls Tryz.prog 95 #[v] w fun e w' => e = .returned (.int .u32 (crc l)) ∧ w = w' := by
  obtain ⟨a, cap, rfl, hcap, hx⟩ := hv.opened
  have HX := Lib.hid hx
  clear hx
  go_enter Tryz.func95, Tryz.ntmps95
  go_wp2
  go_loop [3, 8] (fun c i => ∃ k : Nat, k ≤ l.length ∧ i = .int .i64 k ∧ c = .int .u32 (crcFrom 4294967295 (l.take k))) (fun _ i => l.length - (intOf i).toNat)
  case atStart => exact ⟨0, by omega, rfl, by simp [crcFrom]⟩
  case round =>
    obtain ⟨k, hk, rfl, rfl⟩ := hrel
    have hlt := crcFrom_lt (l.take k) 4294967295 (by decide)
    by_cases h : k < l.length
    · have H := Lib.hid (crcFrom_take 4294967295 l k h)
      obtain ⟨b, off, rfl, hcell⟩ := HX.out k h
      generalize crcFrom 4294967295 (l.take k) = c at *
      have hb := l[k].toNat_lt
      have hz : c % 256 ^^^ l[k].toNat < 256 := Nat.xor_lt_two_pow (n := 8) (by omega) (by omega)
      have hxor : bits BinOp.xor IntKind.u8 ((c : Int) % 256) (l[k].toNat : Int) = ((c % 256 ^^^ l[k].toNat : Nat) : Int) := by
        rw [show ((c : Int) % 256) = ((c % 256 : Nat) : Int) by omega, u8_xor_nat _ _ (by omega) (by omega)]
      have hs := stepN_lt 8 (c % 256 ^^^ l[k].toNat) (by omega)
      go_wp2_with (go_at_call 135; refine (halved_any _ hz _).mono ?_; rintro e w' ⟨rfl, rfl⟩)
      go_round
      case rel =>
        refine ⟨k + 1, by omega, by go_num, ?_⟩
        rw [show ((c : Int) / 256) = ((c / 256 : Nat) : Int) by omega, u32_xor_nat _ _ hs (by omega), sum_step, H.out]
      case measure => simp [intOf]; omega
    · obtain rfl : k = l.length := by omega
      rw [List.take_length] at *
      go_wp2
      go_ret
      refine ⟨ret_int ?_, rfl⟩
      rw [show IntKind.u32.max = ((4294967295 : Nat) : Int) from rfl, u32_xor_nat _ _ (by decide) hlt, Nat.xor_comm]
      rfl

/-- four bytes as a number, the highest first -/
def be32 (a b c d : UInt8) : Nat := a.toNat * 16777216 + b.toNat * 65536 + c.toNat * 256 + d.toNat
theorem be32_or (a b c d : UInt8) : bits BinOp.or IntKind.u32 (bits BinOp.or IntKind.u32 (bits BinOp.or IntKind.u32 ((a.toNat : Int) * 16777216) ((b.toNat : Int) * 65536)) ((c.toNat : Int) * 256)) (d.toNat : Int) = (be32 a b c d : Int) := by
  have ha := a.toNat_lt
  have hb := b.toNat_lt
  have hc := c.toNat_lt
  have hd := d.toNat_lt
  have j1 : a.toNat * 16777216 ||| b.toNat * 65536 = a.toNat * 16777216 + b.toNat * 65536 := nat_join 24 _ _ (by omega) (by omega)
  have j2 : (a.toNat * 16777216 + b.toNat * 65536) ||| c.toNat * 256 = a.toNat * 16777216 + b.toNat * 65536 + c.toNat * 256 := nat_join 16 _ _ (by omega) (by omega)
  have j3 : (a.toNat * 16777216 + b.toNat * 65536 + c.toNat * 256) ||| d.toNat = a.toNat * 16777216 + b.toNat * 65536 + c.toNat * 256 + d.toNat := nat_join 8 _ _ (by omega) (by omega)
  rw [show ((a.toNat : Int) * 16777216) = ((a.toNat * 16777216 : Nat) : Int) by omega, show ((b.toNat : Int) * 65536) = ((b.toNat * 65536 : Nat) : Int) by omega, show ((c.toNat : Int) * 256) = ((c.toNat * 256 : Nat) : Int) by omega,
    u32_or_nat _ _ (by omega) (by omega), j1, u32_or_nat _ _ (by omega) (by omega), j2, u32_or_nat _ _ (by omega) (by omega), j3]
  rfl
set_option maxHeartbeats 400000 in
theorem address_any (a b c d : UInt8) (r : List UInt8) (w : World) (_hr : r.length ≤ 9223372036854775000) :
    Calls Tryz.prog 96 #[.string ⟨(a :: b :: c :: d :: r).toArray⟩] w fun e w' => e = .returned (.int .u32 (be32 a b c d)) ∧ ∃ n, w' = w.drewN n := by
  have ha := a.toNat_lt
  have hb := b.toNat_lt
  have hc := c.toNat_lt
  have hd := d.toNat_lt
  go_enter Tryz.func96, Tryz.ntmps96
  go_wp2
  have i0 : ∀ w, (Instr.index 9 (.string ⟨(a :: b :: c :: d :: r).toArray⟩) (.int .i64 0)).run Tryz.prog w = .ok (.int .u8 a.toNat) w := fun w => run_index_str Tryz.underlying9 _ _ 0 a (by decide) rfl w
  have i1 : ∀ w, (Instr.index 9 (.string ⟨(a :: b :: c :: d :: r).toArray⟩) (.int .i64 1)).run Tryz.prog w = .ok (.int .u8 b.toNat) w := fun w => run_index_str Tryz.underlying9 _ _ 1 b (by decide) rfl w
  have i2 : ∀ w, (Instr.index 9 (.string ⟨(a :: b :: c :: d :: r).toArray⟩) (.int .i64 2)).run Tryz.prog w = .ok (.int .u8 c.toNat) w := fun w => run_index_str Tryz.underlying9 _ _ 2 c (by decide) rfl w
  have i3 : ∀ w, (Instr.index 9 (.string ⟨(a :: b :: c :: d :: r).toArray⟩) (.int .i64 3)).run Tryz.prog w = .ok (.int .u8 d.toNat) w := fun w => run_index_str Tryz.underlying9 _ _ 3 d (by decide) rfl w
  go_quiet (fail)
  go_wp2
  go_ret
  exact ⟨ret_int (be32_or a b c d), _, rfl⟩
set_option maxHeartbeats 400000 in
theorem fault_any (k n : Int) (w : World) :
    Calls Tryz.prog 85 #[.int .i64 k, .int .i64 n] w fun e w' => e = .returned (.pointer (some ⟨w.heap.size, 0, none⟩)) ∧ w' = w.alloc (.cells #[.int .i64 k, .int .i64 n, .nilIface] 166) := by
  go_enter Tryz.func85, Tryz.ntmps85
  go_wp2
  go_ret
  exact ⟨rfl, rfl⟩

/-- a frame -/
def be4 (n : Nat) : List UInt8 := [UInt8.ofNat (n / 16777216), UInt8.ofNat (n / 65536), UInt8.ofNat (n / 256), UInt8.ofNat n]
def sealB (kind : UInt8) (l : List UInt8) : List UInt8 := kind :: l ++ be4 (crc (kind :: l))

theorem be4_at (w : World) (c : Nat) (hc : c < 4294967296) : BytesAt (w.alloc (.cells #[.int .u8 ((c : Int) / 16777216), .int .u8 ((c : Int) / 65536 % 256), .int .u8 ((c : Int) / 256 % 256), .int .u8 ((c : Int) % 256)] 5)) (.slice (some ⟨w.heap.size, 0, none⟩) 4 4) (be4 c) := by
  have h := OwnS.new w #[.int .u8 ((c : Int) / 16777216), .int .u8 ((c : Int) / 65536 % 256), .int .u8 ((c : Int) / 256 % 256), .int .u8 ((c : Int) % 256)] 5 0 0 0 1 4 4 (Nat.zero_le _) (by omega) (by decide) (by simp) (.inl (by omega))
  have e : (#[Value.int .u8 ((c : Int) / 16777216), .int .u8 ((c : Int) / 65536 % 256), .int .u8 ((c : Int) / 256 % 256), .int .u8 ((c : Int) % 256)] : Array Value).toList.take (4 * 1) = u8s (be4 c) := by
    simp [u8s, be4]
    omega
  rw [e] at h
  exact h.bytes
set_option maxHeartbeats 400000 in
theorem Seal_any (kind : UInt8) (v : Value) (l : List UInt8) (w : World) (hv : BytesAt w v l) (hl : l.length ≤ maxB) :
    Calls Tryz.prog 58 #[.int .u8 kind.toNat, v] w fun e w' => ∃ v', e = .returned v' ∧ OwnS w' w.heap.size 1 v' (l.length + 5) (u8s (sealB kind l)) ∧ Below w.heap.size w w' := by
  have hv2 : BytesAt (w.alloc (.cells #[.int .u8 kind.toNat] 5)) v l := hv.below ((Below.refl _ w).alloc (Nat.le_refl _) _)
  have hown : OwnS (w.alloc (.cells #[.int .u8 kind.toNat] 5)) w.heap.size 1 (.slice (some ⟨w.heap.size, 0, none⟩) 1 1) 1 (u8s [kind]) := OwnS.new w #[.int .u8 kind.toNat] 5 0 0 w.heap.size 1 1 1 (Nat.le_refl _) (by omega) (by decide) (by simp) (.inl (by omega))
  unfold maxB at hl
  have HL := Lib.hid hl
  clear hl
  go_enter Tryz.func58, Tryz.ntmps58
  go_wp2_with (at_builtin; refine wpList_append_u8 rfl (.tmp 8) (.tmp 9) rfl w.heap.size (.slice (some ⟨w.heap.size, 0, none⟩) 1 1) 1 [kind] rfl hown l hv2 (by have := HL.out; omega) (by simp) ?_; intro v1 w1 hown1 _ hb1)
  refine (sum_any v1 (kind :: l) _ hown1.bytes (by have := HL.out; simp; omega)).mono ?_
  rintro e w2 ⟨rfl, rfl⟩
  have hlt := crc_lt (kind :: l)
  have HS := Lib.hid (show sealB kind l = kind :: l ++ be4 (crc (kind :: l)) from rfl)
  generalize crc (kind :: l) = c at *
  go_wp2_with (at_builtin; refine wpList_append_u8 rfl (.tmp 13) (.tmp 25) rfl w.heap.size v1 (1 + l.length) ([kind] ++ l) rfl (hown1.below ((Below.refl _ w1).alloc (Nat.le_refl _) _)) (be4 c) (be4_at w1 c hlt) (by have := HL.out; simp [be4]; omega) (by have := hb1.size; simp at this ⊢; omega) ?_; intro v2 w2 hown3 _ hb2)
  go_ret
  refine ⟨v2, rfl, ?_, ?_⟩
  · rw [HS.out]
    have e1 : 1 + l.length + (be4 c).length = l.length + 5 := by simp [be4]; omega
    rw [← e1]
    exact hown3
  · exact (((Below.refl _ w).alloc (Nat.le_refl _) _).trans hb1).trans (((Below.refl _ w1).alloc (by have := hb1.size; simp at this; omega) _).trans hb2)

/-- an error that is a fault of that kind and place, in a block from base on -/
def FaultAt (w : World) (base : Nat) (v : Value) (k n : Int) : Prop :=
  ∃ g, v = .iface 114 (.pointer (some ⟨g, 0, none⟩)) ∧ base ≤ g ∧ w.heap[g]? = some (.cells #[.int .i64 k, .int .i64 n, .nilIface] 166 (0, 0))
theorem FaultAt.new (w : World) (base : Nat) (k n : Int) (h : base ≤ w.heap.size) : FaultAt (w.alloc (.cells #[.int .i64 k, .int .i64 n, .nilIface] 166)) base (.iface 114 (.pointer (some ⟨w.heap.size, 0, none⟩))) k n :=
  ⟨_, rfl, h, heap_new _ _⟩

set_option maxHeartbeats 400000 in
theorem Unseal_short (v : Value) (l : List UInt8) (w : World) (hv : BytesAt w v l) (hl : l.length < 5) :
    Calls Tryz.prog 52 #[v] w fun e w' => ∃ ev, e = .returned (.tuple #[.int .u8 0, .slice none 0 0, ev]) ∧ FaultAt w' w.heap.size ev 1 l.length ∧ Below w.heap.size w w' := by
  obtain ⟨a, cap, rfl, hcap, hx⟩ := hv.opened
  clear hx hv
  go_enter Tryz.func52, Tryz.ntmps52
  go_wp2_with (go_at_call 85; refine (fault_any _ _ _).mono ?_; rintro e w' ⟨rfl, rfl⟩)
  go_ret3
  exact ⟨_, rfl, FaultAt.new w _ _ _ (Nat.le_refl _), (Below.refl _ w).alloc (Nat.le_refl _) _⟩

theorem go_sum_quiet {v : Value} {l : List UInt8} {w : World} {n : Nat} (hv : BytesAt w v l) (hl : l.length ≤ maxB) :
    Calls Tryz.prog 95 #[v] (w.drewN n) fun e w'' => e = .returned (.int .u32 (crc l)) ∧ ∃ m, w'' = w.drewN m :=
  (sum_any v l (w.drewN n) (hv.drewN n) (by unfold maxB at hl; omega)).mono fun _ _ ⟨h1, h2⟩ => ⟨h1, n, h2.symm⟩
theorem go_address_quiet (a b c d : UInt8) (w : World) (n : Nat) :
    Calls Tryz.prog 96 #[.string ⟨[a, b, c, d].toArray⟩] (w.drewN n) fun e w'' => e = .returned (.int .u32 (be32 a b c d)) ∧ ∃ m, w'' = w.drewN m :=
  Calls.quiet_of (address_any a b c d [] (w.drewN n) (by simp))

set_option maxHeartbeats 800000 in
theorem Unseal_long (v : Value) (k : UInt8) (p : List UInt8) (a b c d : UInt8) (w : World) (hv : BytesAt w v (k :: p ++ [a, b, c, d])) (hl : p.length + 1 ≤ maxB) (heq : crc (k :: p) = be32 a b c d) :
    Calls Tryz.prog 52 #[v] w fun e w' => ∃ v', e = .returned (.tuple #[.int .u8 k.toNat, v', .nilIface]) ∧ OwnS w' w.heap.size 1 v' p.length (u8s p) ∧ Below w.heap.size w w' := by
  obtain ⟨a0, cap, rfl, hcap, hx⟩ := hv.opened
  obtain ⟨blk, off, rfl, hc0⟩ := hx 0 (by simp)
  have hlen : (k :: p ++ [a, b, c, d]).length = p.length + 5 := by simp
  have hl2 : p.length ≤ 9223372036854775000 := by unfold maxB at hl; omega
  have hcap2 : p.length + 5 ≤ cap := by rw [← hlen]; exact hcap
  obtain ⟨n, hn⟩ : ∃ n, n = p.length + 1 := ⟨_, rfl⟩
  have s1 : BytesAt w (.slice (some ⟨blk, off, none⟩) n cap) (k :: p) := by rw [hn]; exact hv.left
  have s2 : BytesAt w (.slice (some ⟨blk, off + n, none⟩) 4 (cap - n)) [a, b, c, d] := by rw [hn]; exact hv.right
  have s3 : BytesAt w (.slice (some ⟨blk, off + 1, none⟩) (n - 1) (cap - 1)) p := by rw [hn]; exact BytesAt.right (x := [k]) (y := p) hv.left
  have hconv : ∀ m, (convert 59 9 (.slice (some ⟨blk, off + n, none⟩) 4 (cap - n))).run Tryz.prog (w.drewN m) = .ok (.string ⟨[a, b, c, d].toArray⟩) (w.drewN m) := fun m => (s2.drewN m).convert
  have hlt := cell_lt hc0
  have n1 : n ≤ cap := by omega
  have n2 : 1 ≤ n := by omega
  have n3 : n + 4 ≤ cap := by omega
  have n4 : (0 : Int) < (n : Int) + 4 := by omega
  have n5 : (1 : Int) ≤ (n : Int) := by omega
  have n6 : ¬ cap = 1 := by omega
  rw [hlen]
  clear hx hcap hlen hv
  simp only [List.cons_append, List.getElem_cons_zero, Nat.add_zero] at hc0
  have HN := Lib.hid hn
  clear hn
  go_enter Tryz.func52, Tryz.ntmps52
  go_wp2
  rw [show (p.length : Int) + 5 - 4 = (n : Int) by rw [HN.out]; omega]
  rw [show p.length + 5 = n + 4 by rw [HN.out]]
  go_quiet ((first | (go_at_call 95; exact go_sum_quiet s1 (by simp; omega)) | (go_at_call 96; exact go_address_quiet a b c d w _)))
  go_wp2
  go_region_held3 (fun w' => w'.cell? ⟨blk, off, none⟩ = some (.int .u8 k.toNat)) (first | go_keep | exact (hb1.cell (p := ⟨blk, off, none⟩) hlt).trans hc0)
    ((refine step_append_u8 rfl _ (.tmp 33) rfl w.heap.size (.slice none 0 0) 0 [] rfl (OwnS.nil _ _ _) p (by exact s3) (by unfold maxB at hl; omega) (by simp) ?_; intro v1 w1 hown1 _ hb1))
  go_wp2
  go_ret3
  rw [Nat.zero_add, List.nil_append] at hown1
  exact ⟨v1, rfl, hown1, ⟨hb1.os, hb1.tape, hb1.output, hb1.size, hb1.block⟩⟩
set_option maxHeartbeats 800000 in
theorem Unseal_sum (v : Value) (k : UInt8) (p : List UInt8) (a b c d : UInt8) (w : World) (hv : BytesAt w v (k :: p ++ [a, b, c, d])) (hl : p.length + 1 ≤ maxB) (heq : ¬ crc (k :: p) = be32 a b c d) :
    Calls Tryz.prog 52 #[v] w fun e w' => ∃ ev, e = .returned (.tuple #[.int .u8 0, .slice none 0 0, ev]) ∧ FaultAt w' w.heap.size ev 3 (p.length + 1) ∧ Below w.heap.size w w' := by
  obtain ⟨a0, cap, rfl, hcap, hx⟩ := hv.opened
  obtain ⟨blk, off, rfl, hc0⟩ := hx 0 (by simp)
  have hlen : (k :: p ++ [a, b, c, d]).length = p.length + 5 := by simp
  have hl2 : p.length ≤ 9223372036854775000 := by unfold maxB at hl; omega
  have hcap2 : p.length + 5 ≤ cap := by rw [← hlen]; exact hcap
  obtain ⟨n, hn⟩ : ∃ n, n = p.length + 1 := ⟨_, rfl⟩
  have s1 : BytesAt w (.slice (some ⟨blk, off, none⟩) n cap) (k :: p) := by rw [hn]; exact hv.left
  have s2 : BytesAt w (.slice (some ⟨blk, off + n, none⟩) 4 (cap - n)) [a, b, c, d] := by rw [hn]; exact hv.right
  have s3 : BytesAt w (.slice (some ⟨blk, off + 1, none⟩) (n - 1) (cap - 1)) p := by rw [hn]; exact BytesAt.right (x := [k]) (y := p) hv.left
  have hconv : ∀ m, (convert 59 9 (.slice (some ⟨blk, off + n, none⟩) 4 (cap - n))).run Tryz.prog (w.drewN m) = .ok (.string ⟨[a, b, c, d].toArray⟩) (w.drewN m) := fun m => (s2.drewN m).convert
  have hlt := cell_lt hc0
  have hne1 : ((crc (k :: p) : Int) == (be32 a b c d : Int)) = false := by rw [beq_eq_false_iff_ne]; omega
  have hne2 : ((crc (k :: p) : Int) != (be32 a b c d : Int)) = true := by rw [bne_iff_ne]; omega
  have n1 : n ≤ cap := by omega
  have n2 : 1 ≤ n := by omega
  have n3 : n + 4 ≤ cap := by omega
  have n4 : (0 : Int) < (n : Int) + 4 := by omega
  have n5 : (1 : Int) ≤ (n : Int) := by omega
  have n6 : ¬ cap = 1 := by omega
  rw [hlen]
  clear hx hcap hlen hv
  simp only [List.cons_append, List.getElem_cons_zero, Nat.add_zero] at hc0
  have HN := Lib.hid hn
  clear hn
  go_enter Tryz.func52, Tryz.ntmps52
  go_wp2
  rw [show (p.length : Int) + 5 - 4 = (n : Int) by rw [HN.out]; omega]
  rw [show p.length + 5 = n + 4 by rw [HN.out]]
  go_quiet ((first | (go_at_call 95; exact go_sum_quiet s1 (by simp; omega)) | (go_at_call 96; exact go_address_quiet a b c d w _)))
  go_wp2_with (go_at_call 85; refine (fault_any _ _ _).mono ?_; rintro e w' ⟨rfl, rfl⟩)
  go_ret3
  refine ⟨_, rfl, ?_, (((Below.refl _ w).drewN nq).alloc (Nat.le_refl _) _)⟩
  rw [show (p.length : Int) + 1 = (n : Int) by rw [HN.out]; omega]
  exact FaultAt.new (w.drewN nq) w.heap.size 3 n (Nat.le_refl _)

/-- what a frame is: its kind and its body, or a fault and where -/
def unsealB (l : List UInt8) : (UInt8 × List UInt8) ⊕ (Nat × Nat) :=
  if l.length < 5 then .inr (1, l.length)
  else match l.drop (l.length - 4) with
    | [a, b, c, d] => if crc (l.take (l.length - 4)) = be32 a b c d then .inl (l.headD 0, (l.take (l.length - 4)).drop 1) else .inr (3, l.length - 4)
    | _ => .inr (0, 0)
theorem unsealB_long (k : UInt8) (p : List UInt8) (a b c d : UInt8) : unsealB (k :: p ++ [a, b, c, d]) = if crc (k :: p) = be32 a b c d then .inl (k, p) else .inr (3, p.length + 1) := by
  have h1 : (k :: p ++ [a, b, c, d]).length - 4 = (k :: p).length := by simp
  unfold unsealB
  rw [if_neg (by simp), h1, List.drop_left, List.take_left]
  simp
theorem split_frame (l : List UInt8) (h : ¬ l.length < 5) : ∃ k p a b c d, l = k :: p ++ [a, b, c, d] := by
  cases l with
  | nil => simp at h
  | cons k r =>
    have hr : r = r.take (r.length - 4) ++ r.drop (r.length - 4) := (List.take_append_drop _ _).symm
    have hd : (r.drop (r.length - 4)).length = 4 := by simp at h ⊢; omega
    match hq : r.drop (r.length - 4), hd with
    | [a, b, c, d], _ => exact ⟨k, r.take (r.length - 4), a, b, c, d, by rw [hq] at hr; rw [List.cons_append, ← hr]⟩
def UnsealPost (l : List UInt8) (w : World) (e : Ending) (w' : World) : Prop :=
  Below w.heap.size w w' ∧ match unsealB l with
    | .inl (k, p) => ∃ v', e = .returned (.tuple #[.int .u8 k.toNat, v', .nilIface]) ∧ OwnS w' w.heap.size 1 v' p.length (u8s p)
    | .inr (k, n) => ∃ ev, e = .returned (.tuple #[.int .u8 0, .slice none 0 0, ev]) ∧ FaultAt w' w.heap.size ev k n
theorem Unseal_any (v : Value) (l : List UInt8) (w : World) (hv : BytesAt w v l) (hl : l.length ≤ maxB) :
    Calls Tryz.prog 52 #[v] w (UnsealPost l w) := by
  by_cases h : l.length < 5
  · refine (Unseal_short v l w hv h).mono fun e w' ⟨ev, h1, h2, h3⟩ => ⟨h3, ?_⟩
    unfold unsealB
    rw [if_pos h]
    exact ⟨ev, h1, h2⟩
  · obtain ⟨k, p, a, b, c, d, rfl⟩ := split_frame l h
    have hl2 : p.length + 1 ≤ maxB := by simp at hl; omega
    by_cases heq : crc (k :: p) = be32 a b c d
    · refine (Unseal_long v k p a b c d w hv hl2 heq).mono fun e w' ⟨v', h1, h2, h3⟩ => ⟨h3, ?_⟩
      rw [unsealB_long, if_pos heq]
      exact ⟨v', h1, h2⟩
    · refine (Unseal_sum v k p a b c d w hv hl2 heq).mono fun e w' ⟨ev, h1, h2, h3⟩ => ⟨h3, ?_⟩
      rw [unsealB_long, if_neg heq]
      exact ⟨ev, h1, h2⟩
theorem be4_eq (n : Nat) (hn : n < 4294967296) (a b c d : UInt8) : be4 n = [a, b, c, d] ↔ n = be32 a b c d := by
  have ha := a.toNat_lt
  have hb := b.toNat_lt
  have hc := c.toNat_lt
  have hd := d.toNat_lt
  unfold be4 be32
  constructor
  · intro h
    simp only [List.cons.injEq, and_true] at h
    obtain ⟨h1, h2, h3, h4⟩ := h
    have e1 := congrArg UInt8.toNat h1
    have e2 := congrArg UInt8.toNat h2
    have e3 := congrArg UInt8.toNat h3
    have e4 := congrArg UInt8.toNat h4
    simp at e1 e2 e3 e4
    omega
  · intro h
    simp only [List.cons.injEq, and_true, ← UInt8.toNat_inj]
    simp
    omega
end Go.Proofs.YtkkfmkhbdoeglaaGreatDoor
