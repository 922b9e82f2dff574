/- Contracts of the references' sum and frames: Sum, Seal, Unseal. -/
import Derived.Test.YtkkfmkhbdoeglaaDoorPlainB
namespace Go.Proofs.YtkkfmkhbdoeglaaDoor
open Go.RowKit

set_option maxRecDepth 100000 in
set_option maxHeartbeats 1000000 in
theorem refSum_any (l : List UInt8) (w : World) (hl : l.length ≤ maxB + 1) :
    Calls Tryd.prog 32 #[.string ⟨l.toArray⟩] w fun e w' => e = .returned (.string ⟨(be4 (crc l)).toArray⟩) ∧ Below w.heap.size w w' := by
  have hl2 : l.length ≤ 9223372036854775000 := by unfold maxB at hl; omega
  go_enter Tryd.func32, Tryd.ntmps32
  go_wp2
  go_loop [3, 4, 5] (fun c i _ => ∃ k : Nat, k ≤ l.length ∧ i = .int .i64 k ∧ c = .int .u32 (crcFrom 4294967295 (l.take k))) (fun _ i _ => l.length - (intOf i).toNat)
  case atStart => exact ⟨0, by omega, rfl, by simp [crcFrom]⟩
  case round =>
    obtain ⟨k, hk, rfl, rfl⟩ := hrel
    have hlt := crcFrom_lt (l.take k) 4294967295 (by decide)
    by_cases h : k < l.length
    · have H := Lib.hid (crcFrom_take 4294967295 l k h)
      have hb := l[k].toNat_lt
      generalize crcFrom 4294967295 (l.take k) = c at *
      have hz : c ^^^ l[k].toNat < 4294967296 := Nat.xor_lt_two_pow (n := 32) (by omega) (by omega)
      have hx : bits BinOp.xor IntKind.u32 (c : Int) (l[k].toNat : Int) = ((c ^^^ l[k].toNat : Nat) : Int) := u32_xor_nat _ _ hlt (by omega)
      have hix : ∀ w, (Instr.index 9 (.string ⟨l.toArray⟩) (.int .i64 (k : Int))).run Tryd.prog w = .ok (.int .u8 l[k].toNat) w := fun w => run_index_str Tryd.underlying9 l _ k l[k] (by omega) (by simp [h]) w
      go_wp2
      generalize hd : c ^^^ l[k].toNat = d at *
      have HD := Lib.hid hd
      clear hd hx hix
      go_loop [3, 5] (fun c j => ∃ m : Nat, m ≤ 8 ∧ j = .int .i64 m ∧ c = .int .u32 (stepN m d)) (fun _ j => 8 - (intOf j).toNat)
      case atStart => exact ⟨0, by omega, rfl, rfl⟩
      case round =>
        obtain ⟨m, hm, rfl, rfl⟩ := hrel
        by_cases h8 : m < 8
        · have hlt2 := stepN_lt m d hz
          have hs : stepN (m + 1) d = stepC (stepN m d) := rfl
          have HS := Lib.hid hs
          clear hs
          generalize stepN m d = e at *
          have hx : bits BinOp.xor IntKind.u32 ((e : Int) / 2) 3988292384 = (((e / 2) ^^^ 3988292384 : Nat) : Int) := by
            rw [show (3988292384 : Int) = ((3988292384 : Nat) : Int) from rfl, show ((e : Int) / 2) = ((e / 2 : Nat) : Int) by omega, u32_xor_nat (e / 2) _ (by omega) (by decide)]
          by_cases h2 : e % 2 = 1
          · have ht : ((e : Int) % 2 == 1) = true := by rw [beq_iff_eq]; omega
            go_wp2
            go_round
            case rel => exact ⟨m + 1, by omega, by go_num, by rw [HS.out, stepC, if_pos h2]⟩
            case measure => simp [intOf]; omega
          · have ht : ((e : Int) % 2 == 1) = false := by rw [beq_eq_false_iff_ne]; omega
            go_wp2
            go_round
            case rel => exact ⟨m + 1, by omega, by go_num, by rw [HS.out, stepC, if_neg h2]; go_num⟩
            case measure => simp [intOf]; omega
        · obtain rfl : m = 8 := by omega
          go_wp2
          go_round
          case rel => exact ⟨k + 1, by omega, by go_num, by rw [H.out]⟩
          case measure => simp [intOf]; omega
    · obtain rfl : k = l.length := by omega
      rw [List.take_length] at *
      have hx : bits BinOp.xor IntKind.u32 (crcFrom 4294967295 l : Int) 4294967295 = (crc l : Int) := by
        rw [show (4294967295 : Int) = ((4294967295 : Nat) : Int) from rfl, u32_xor_nat _ _ hlt (by decide)]
        rfl
      have hc := crc_lt l
      generalize hcc : crc l = c at *
      have HC := Lib.hid hcc
      clear hcc
      go_wp2_with (refine wpList_string_of rfl (.tmp 43) rfl (be4 c) (be4_at _ c hc) ?_)
      go_ret
      exact ⟨by rw [HC.out]; rfl, (Below.refl _ w).alloc (Nat.le_refl _) _⟩

theorem oneByte_at (w : World) (k : UInt8) : BytesAt (w.alloc (.cells #[.int .u8 (k.toNat : Int)] 5)) (.slice (some ⟨w.heap.size, 0, none⟩) 1 1) [k] :=
  (OwnS.new w #[.int .u8 (k.toNat : Int)] 5 0 0 0 1 1 1 (Nat.zero_le _) (by omega) (by decide) (by simp) (.inl (by omega))).bytes (l := [k])
set_option maxRecDepth 100000 in
set_option maxHeartbeats 400000 in
theorem refSeal_any (kind : Int) (l : List UInt8) (w : World) (hl : l.length ≤ maxB) :
    Calls Tryd.prog 12 #[.int .i64 kind, .string ⟨l.toArray⟩] w fun e w' => e = .returned (.string ⟨(sealB (byteOf kind) l).toArray⟩) ∧ Below w.heap.size w w' := by
  have HK := Lib.hid (byteOf_toNat kind)
  have hl2 : l.length ≤ 9223372036854775000 := by unfold maxB at hl; omega
  go_enter Tryd.func12, Tryd.ntmps12
  go_wp2_with (first
    | (rw [← HK.out]; refine wpList_string_of rfl (.tmp 8) rfl [byteOf kind] (oneByte_at _ _) ?_)
    | (refine wpList_add_str rfl (.tmp 9) (.tmp 10) rfl [byteOf kind] l rfl rfl (by simp; omega) ?_)
    | (refine wpList_add_str rfl (.tmp 12) (.tmp 14) rfl (byteOf kind :: l) (be4 (crc (byteOf kind :: l))) rfl rfl (by simp; omega) ?_)
    | (go_at_call 32; refine (refSum_any (byteOf kind :: l) _ (by simp; omega)).mono ?_; rintro e w2 ⟨rfl, hb2⟩))
  go_ret
  exact ⟨rfl, ((Below.refl _ w).alloc (Nat.le_refl _) _).trans (hb2.mono (by simp))⟩

theorem be4_eq (n : Nat) (hn : n < 4294967296) (a b c d : UInt8) : be4 n = [a, b, c, d] ↔ n = be32 a b c d := by
  have ha := a.toNat_lt
  have hb := b.toNat_lt
  have hc := c.toNat_lt
  have hd := d.toNat_lt
  unfold be4 be32
  constructor
  · intro h
    simp only [List.cons.injEq, and_true] at h
    obtain ⟨h1, h2, h3, h4⟩ := h
    have e1 := congrArg UInt8.toNat h1
    have e2 := congrArg UInt8.toNat h2
    have e3 := congrArg UInt8.toNat h3
    have e4 := congrArg UInt8.toNat h4
    simp at e1 e2 e3 e4
    omega
  · intro h
    simp only [List.cons.injEq, and_true, ← UInt8.toNat_inj]
    simp
    omega
/-- what the reference's Unseal tells of a frame -/
def refUnsealV (l : List UInt8) : Value :=
  match unsealB l with
  | .inl (k, p) => .tuple #[.int .i64 k.toNat, .string ⟨p.toArray⟩, .agg #[.int .i64 0, .int .i64 0]]
  | .inr (k, n) => .tuple #[.int .i64 0, .string ⟨[].toArray⟩, .agg #[.int .i64 k, .int .i64 n]]
set_option maxRecDepth 100000 in
set_option maxHeartbeats 400000 in
theorem refUnseal_short (l : List UInt8) (w : World) (hl : l.length < 5) :
    Calls Tryd.prog 33 #[.string ⟨l.toArray⟩] w fun e w' => e = .returned (.tuple #[.int .i64 0, .string ⟨[].toArray⟩, .agg #[.int .i64 1, .int .i64 l.length]]) ∧ Below w.heap.size w w' := by
  go_enter Tryd.func33, Tryd.ntmps33
  go_wp2
  refine bodyPost_ret (v := .tuple #[.int .i64 0, .string ⟨[].toArray⟩, .agg #[.int .i64 1, .int .i64 l.length]]) (by simp [results, Tryd.results33, go_sem]) rfl ⟨rfl, ?_⟩
  exact (Below.refl _ w).alloc (Nat.le_refl _) _
set_option maxRecDepth 100000 in
set_option maxHeartbeats 400000 in
theorem refUnseal_good (k : UInt8) (p : List UInt8) (a b c d : UInt8) (w : World) (hl : p.length ≤ maxB) (heq : crc (k :: p) = be32 a b c d) :
    Calls Tryd.prog 33 #[.string ⟨(k :: p ++ [a, b, c, d]).toArray⟩] w fun e w' => e = .returned (.tuple #[.int .i64 k.toNat, .string ⟨p.toArray⟩, .agg #[.int .i64 0, .int .i64 0]]) ∧ Below w.heap.size w w' := by
  have hl2 : p.length ≤ 9223372036854775000 := by unfold maxB at hl; omega
  obtain ⟨n, hn⟩ : ∃ n, n = p.length + 1 := ⟨_, rfl⟩
  have hlen : (k :: p ++ [a, b, c, d]).length = n + 4 := by simp; omega
  have hk := k.toNat_lt
  have hkw : IntKind.i64.wrap (k.toNat : Int) = (k.toNat : Int) := IntWalk.i64_in _ (by omega)
  have hq : (be4 (crc (k :: p)) == [a, b, c, d]) = true := by rw [beq_iff_eq]; exact (be4_eq _ (crc_lt _) a b c d).2 heq
  have hs1 : ∀ w, (Instr.slice 9 (.string ⟨(k :: p ++ [a, b, c, d]).toArray⟩) none (some (.int .i64 (n : Int))) none).run Tryd.prog w = .ok (.string ⟨(k :: p).toArray⟩) w := fun w => by
    rw [run_str_to Tryd.underlying9 _ _ n (by omega) (by rw [hlen]; omega), Int.toNat_natCast, hn, show p.length + 1 = (k :: p).length from rfl, List.take_left]
  have hs2 : ∀ w, (Instr.slice 9 (.string ⟨(k :: p ++ [a, b, c, d]).toArray⟩) (some (.int .i64 (n : Int))) none none).run Tryd.prog w = .ok (.string ⟨[a, b, c, d].toArray⟩) w := fun w => by
    rw [run_str_from Tryd.underlying9 _ _ n (by omega) (by rw [hlen]; omega), Int.toNat_natCast, hn, show p.length + 1 = (k :: p).length from rfl, List.drop_left]
  have hs3 : ∀ w, (Instr.slice 9 (.string ⟨(k :: p ++ [a, b, c, d]).toArray⟩) (some (.int .i64 1)) (some (.int .i64 (n : Int))) none).run Tryd.prog w = .ok (.string ⟨p.toArray⟩) w := fun w => by
    rw [run_str_part Tryd.underlying9 _ _ _ 1 n (by omega) (by omega) (by rw [hlen]; omega), Int.toNat_natCast, hn, show ((1 : Int).toNat) = 1 from rfl, Nat.add_sub_cancel, List.cons_append, List.drop_succ_cons, List.drop_zero, List.take_left]
  have hi0 : ∀ w, (Instr.index 9 (.string ⟨(k :: p ++ [a, b, c, d]).toArray⟩) (.int .i64 0)).run Tryd.prog w = .ok (.int .u8 k.toNat) w := fun w => run_index_str Tryd.underlying9 _ _ 0 k (by decide) rfl w
  have n1 : 1 ≤ n := by omega
  have n2 : n ≤ 9223372036854775001 := by omega
  have HN := Lib.hid hn
  clear hn
  clear heq
  generalize hL : k :: p ++ [a, b, c, d] = L at *
  have HL := Lib.hid hL
  clear hL
  go_enter Tryd.func33, Tryd.ntmps33
  go_wp2
  go_region_held3 (fun w' => True) (trivial)
    ((go_at_call 32; refine (refSum_any (k :: p) _ (by simp; omega)).mono ?_; rintro e w2 ⟨rfl, hb2⟩))
  go_wp2
  have hr0 : w2.heap[w.heap.size]? = some (.cells #[.int .i64 0, .int .i64 0] 53 (0, 0)) := below_at hb2 (by simp) (by exact heap_new w (.cells #[.int .i64 0, .int .i64 0] 53))
  have hc0 : w2.cell? ⟨w.heap.size, 0, none⟩ = some (.int .i64 0) := cell_of_row _ _ 0 _ _ _ hr0
  have hc1 : w2.cell? ⟨w.heap.size, 1, none⟩ = some (.int .i64 0) := cell_of_row _ _ 1 _ _ _ hr0
  have hf0 := frozen_of_row _ _ 0 _ _ hr0
  have hf1 := frozen_of_row _ _ 1 _ _ hr0
  clear hr0
  go_region_held3 (fun w' => True) (trivial) (fail)
  go_wp2
  refine bodyPost_ret (v := .tuple #[.int .i64 k.toNat, .string ⟨p.toArray⟩, .agg #[.int .i64 0, .int .i64 0]]) (by simp [results, Tryd.results33, go_sem, hc0, hc1]) rfl ⟨rfl, ?_⟩
  have hw2 : Below w.heap.size w w2 := ((Below.refl _ w).alloc (Nat.le_refl _) (.cells #[.int .i64 0, .int .i64 0] 53)).trans (Below.mono ⟨hb2.os, hb2.tape, hb2.output, hb2.size, hb2.block⟩ (by simp))
  exact (hw2.drew.setCell (p := ⟨w.heap.size, 0, none⟩) (Nat.le_refl _) _).setCell (p := ⟨w.heap.size, 1, none⟩) (Nat.le_refl _) _
set_option maxRecDepth 100000 in
set_option maxHeartbeats 400000 in
theorem refUnseal_sum (k : UInt8) (p : List UInt8) (a b c d : UInt8) (w : World) (hl : p.length ≤ maxB) (heq : ¬ crc (k :: p) = be32 a b c d) :
    Calls Tryd.prog 33 #[.string ⟨(k :: p ++ [a, b, c, d]).toArray⟩] w fun e w' => e = .returned (.tuple #[.int .i64 0, .string ⟨[].toArray⟩, .agg #[.int .i64 3, .int .i64 (p.length + 1)]]) ∧ Below w.heap.size w w' := by
  have hl2 : p.length ≤ 9223372036854775000 := by unfold maxB at hl; omega
  obtain ⟨n, hn⟩ : ∃ n, n = p.length + 1 := ⟨_, rfl⟩
  have hlen : (k :: p ++ [a, b, c, d]).length = n + 4 := by simp; omega
  have hk := k.toNat_lt
  have _hkw : IntKind.i64.wrap (k.toNat : Int) = (k.toNat : Int) := IntWalk.i64_in _ (by omega)
  have hq : (be4 (crc (k :: p)) == [a, b, c, d]) = false := by rw [beq_eq_false_iff_ne]; exact fun e => heq ((be4_eq _ (crc_lt _) a b c d).1 e)
  have hs1 : ∀ w, (Instr.slice 9 (.string ⟨(k :: p ++ [a, b, c, d]).toArray⟩) none (some (.int .i64 (n : Int))) none).run Tryd.prog w = .ok (.string ⟨(k :: p).toArray⟩) w := fun w => by
    rw [run_str_to Tryd.underlying9 _ _ n (by omega) (by rw [hlen]; omega), Int.toNat_natCast, hn, show p.length + 1 = (k :: p).length from rfl, List.take_left]
  have hs2 : ∀ w, (Instr.slice 9 (.string ⟨(k :: p ++ [a, b, c, d]).toArray⟩) (some (.int .i64 (n : Int))) none none).run Tryd.prog w = .ok (.string ⟨[a, b, c, d].toArray⟩) w := fun w => by
    rw [run_str_from Tryd.underlying9 _ _ n (by omega) (by rw [hlen]; omega), Int.toNat_natCast, hn, show p.length + 1 = (k :: p).length from rfl, List.drop_left]
  have hs3 : ∀ w, (Instr.slice 9 (.string ⟨(k :: p ++ [a, b, c, d]).toArray⟩) (some (.int .i64 1)) (some (.int .i64 (n : Int))) none).run Tryd.prog w = .ok (.string ⟨p.toArray⟩) w := fun w => by
    rw [run_str_part Tryd.underlying9 _ _ _ 1 n (by omega) (by omega) (by rw [hlen]; omega), Int.toNat_natCast, hn, show ((1 : Int).toNat) = 1 from rfl, Nat.add_sub_cancel, List.cons_append, List.drop_succ_cons, List.drop_zero, List.take_left]
  have _hi0 : ∀ w, (Instr.index 9 (.string ⟨(k :: p ++ [a, b, c, d]).toArray⟩) (.int .i64 0)).run Tryd.prog w = .ok (.int .u8 k.toNat) w := fun w => run_index_str Tryd.underlying9 _ _ 0 k (by decide) rfl w
  have n1 : 1 ≤ n := by omega
  have n2 : n ≤ 9223372036854775001 := by omega
  have HN := Lib.hid hn
  clear hn
  clear heq
  generalize hL : k :: p ++ [a, b, c, d] = L at *
  have HL := Lib.hid hL
  clear hL
  go_enter Tryd.func33, Tryd.ntmps33
  go_wp2
  go_region_held3 (fun w' => True) (trivial)
    ((go_at_call 32; refine (refSum_any (k :: p) _ (by simp; omega)).mono ?_; rintro e w2 ⟨rfl, hb2⟩; have hr0 : w2.heap[w.heap.size]? = some (.cells #[.int .i64 0, .int .i64 0] 53 (0, 0)) := below_at hb2 (by simp) (by exact heap_new w (.cells #[.int .i64 0, .int .i64 0] 53)); have hc0 : w2.cell? ⟨w.heap.size, 0, none⟩ = some (.int .i64 0) := cell_of_row _ _ 0 _ _ _ hr0; have hc1 : w2.cell? ⟨w.heap.size, 1, none⟩ = some (.int .i64 0) := cell_of_row _ _ 1 _ _ _ hr0; have hf0 := frozen_of_row _ _ 0 _ _ hr0; have hf1 := frozen_of_row _ _ 1 _ _ hr0; clear hr0))
  go_wp2
  refine bodyPost_ret (v := .tuple #[.int .i64 0, .string ⟨[].toArray⟩, .agg #[.int .i64 3, .int .i64 n]]) (by simp [results, Tryd.results33, go_sem, hc0, hc1]) rfl ⟨by rw [HN.out]; rfl, ?_⟩
  have hw2 : Below w.heap.size w w2 := ((Below.refl _ w).alloc (Nat.le_refl _) (.cells #[.int .i64 0, .int .i64 0] 53)).trans (Below.mono ⟨hb2.os, hb2.tape, hb2.output, hb2.size, hb2.block⟩ (by simp))
  exact (hw2.setCell (p := ⟨w.heap.size, 0, none⟩) (Nat.le_refl _) _).setCell (p := ⟨w.heap.size, 1, none⟩) (Nat.le_refl _) _

theorem refUnseal_any (l : List UInt8) (w : World) (hl : l.length ≤ maxB) :
    Calls Tryd.prog 33 #[.string ⟨l.toArray⟩] w fun e w' => e = .returned (refUnsealV l) ∧ Below w.heap.size w w' := by
  by_cases h : l.length < 5
  · refine (refUnseal_short l w h).mono fun e w' ⟨h1, h2⟩ => ⟨?_, h2⟩
    unfold refUnsealV unsealB
    rw [if_pos h]
    exact h1
  · obtain ⟨k, p, a, b, c, d, rfl⟩ := split_frame l h
    have hl2 : p.length ≤ maxB := by simp at hl; omega
    by_cases heq : crc (k :: p) = be32 a b c d
    · refine (refUnseal_good k p a b c d w hl2 heq).mono fun e w' ⟨h1, h2⟩ => ⟨?_, h2⟩
      unfold refUnsealV
      rw [unsealB_long, if_pos heq]
      exact h1
    · refine (refUnseal_sum k p a b c d w hl2 heq).mono fun e w' ⟨h1, h2⟩ => ⟨?_, h2⟩
      unfold refUnsealV
      rw [unsealB_long, if_neg heq]
      exact h1
end Go.Proofs.YtkkfmkhbdoeglaaDoor
