/- Contracts of package plain's small functions: Seal. -/
import Derived.Test.YtkkfmkhbdoeglaaGreatDoorFrame
namespace Go.Proofs.YtkkfmkhbdoeglaaGreatDoor
open Go.RowKit

/-- a string's bytes as a new slice -/
theorem stringBytes (w : World) (l : List UInt8) (hl : l.length ≤ maxB) :
    ∃ cap, (convert 9 59 (.string ⟨l.toArray⟩)).run Tryz.prog w = .ok (.slice (some ⟨w.heap.size, 0, none⟩) l.length cap)
      (w.drew.alloc (.cells (bytesRow ⟨l.toArray⟩ cap) 5 ((bytesRow ⟨l.toArray⟩ cap).size, (bytesRow ⟨l.toArray⟩ cap).size + 1))) ∧
      OwnS (w.drew.alloc (.cells (bytesRow ⟨l.toArray⟩ cap) 5 ((bytesRow ⟨l.toArray⟩ cap).size, (bytesRow ⟨l.toArray⟩ cap).size + 1))) w.heap.size 1 (.slice (some ⟨w.heap.size, 0, none⟩) l.length cap) l.length (u8s l) := by
  have hs : (⟨l.toArray⟩ : ByteArray).size = l.length := by simp [ByteArray.size]
  have h := run_bytes_of_string (P := Tryz.prog) w 9 59 5 ⟨l.toArray⟩ Tryz.underlying9 Tryz.underlying59 Tryz.underlying5
  rw [hs] at h
  refine ⟨_, h, ?_⟩
  have hge := grownCap_ge w l.length 0 5
  have hmx : maxLen = 9223372036854775807 := rfl
  have hcm := grownCap_le_maxLen w l.length 0 5 (by unfold maxB at hl; omega)
  have hsz : (bytesRow ⟨l.toArray⟩ (grownCap w l.length 0 5)).size = grownCap w l.length 0 5 := by
    simp [bytesRow]
    omega
  have := OwnS.new w.drew (bytesRow ⟨l.toArray⟩ (grownCap w l.length 0 5)) 5 (bytesRow ⟨l.toArray⟩ (grownCap w l.length 0 5)).size ((bytesRow ⟨l.toArray⟩ (grownCap w l.length 0 5)).size + 1) w.heap.size 1 l.length (grownCap w l.length 0 5) (Nat.le_refl _) hge hcm (by omega) (.inr (by omega))
  have e : (bytesRow ⟨l.toArray⟩ (grownCap w l.length 0 5)).toList.take (l.length * 1) = u8s l := by
    simp [bytesRow, u8s]
  rw [e] at this
  exact this
theorem wp_bytes_of {o : Oper} {a : Act} {K : Act → World → Prop} {Q : Exit → Act → World → Prop} {w : World} (x : Operand) (ho : o.op = .convert 9 59 x) (l : List UInt8) (hx : a.eval x = .string ⟨l.toArray⟩) (hl : l.length ≤ maxB)
    (h : ∀ cap w', OwnS w' w.heap.size 1 (.slice (some ⟨w.heap.size, 0, none⟩) l.length cap) l.length (u8s l) → Below w.heap.size w w' → w.heap.size < w'.heap.size → K (a.put o.dst (.slice (some ⟨w.heap.size, 0, none⟩) l.length cap)) w') : o.wp Tryz.prog a w K Q := by
  obtain ⟨cap, hr, hown⟩ := stringBytes w l hl
  have hb : Below w.heap.size w (w.drew.alloc (.cells (bytesRow ⟨l.toArray⟩ cap) 5 ((bytesRow ⟨l.toArray⟩ cap).size, (bytesRow ⟨l.toArray⟩ cap).size + 1))) := ((Below.refl _ w).drew).alloc (Nat.le_refl _) _
  unfold Oper.wp execOp
  simp only [ho, hx, Sem.run_bind, hr, Result.andThen_ok]
  exact h cap _ hown hb (by simp)
theorem wpList_bytes_of {ops : Array Oper} {rest : List Oper} {o : Oper} {a : Act} {Q : Exit → Act → World → Prop} {w : World} (hgd : o.guard = none) (x : Operand) (ho : o.op = .convert 9 59 x) (l : List UInt8) (hx : a.eval x = .string ⟨l.toArray⟩) (hl : l.length ≤ maxB)
    (h : ∀ cap w', OwnS w' w.heap.size 1 (.slice (some ⟨w.heap.size, 0, none⟩) l.length cap) l.length (u8s l) → Below w.heap.size w w' → w.heap.size < w'.heap.size → wpList Tryz.prog ops Q rest (a.put o.dst (.slice (some ⟨w.heap.size, 0, none⟩) l.length cap)) w') : wpList Tryz.prog ops Q (o :: rest) a w :=
  wpList_plain hgd fun _ hK => wp_bytes_of x ho l hx hl fun cap w' h1 h2 h3 => hK _ _ (h cap w' h1 h2 h3)

theorem wp_string_of {o : Oper} {a : Act} {K : Act → World → Prop} {Q : Exit → Act → World → Prop} {w : World} (x : Operand) (ho : o.op = .convert 59 9 x) (l : List UInt8) (hx : BytesAt w (a.eval x) l)
    (h : K (a.put o.dst (.string ⟨l.toArray⟩)) w) : o.wp Tryz.prog a w K Q := by
  unfold Oper.wp execOp
  simp only [ho, Sem.run_bind, hx.convert, Result.andThen_ok]
  exact h
theorem wpList_string_of {ops : Array Oper} {rest : List Oper} {o : Oper} {a : Act} {Q : Exit → Act → World → Prop} {w : World} (hgd : o.guard = none) (x : Operand) (ho : o.op = .convert 59 9 x) (l : List UInt8) (hx : BytesAt w (a.eval x) l)
    (h : wpList Tryz.prog ops Q rest (a.put o.dst (.string ⟨l.toArray⟩)) w) : wpList Tryz.prog ops Q (o :: rest) a w :=
  wpList_plain hgd fun _ hK => wp_string_of x ho l hx (hK _ _ h)

/-- parts of a string that a list tells -/
theorem run_str_to {P : Program} {t : TypeId} (ht : P.underlying t = some .string) (l : List UInt8) (k : IntKind) (n : Int) (h0 : 0 ≤ n) (h : n ≤ l.length) (w : World) :
    (Instr.slice t (.string ⟨l.toArray⟩) none (some (.int k n)) none).run P w = .ok (.string ⟨(l.take n.toNat).toArray⟩) w := by
  rw [run_slice_string_h w t ⟨l.toArray⟩ ht k n h0 (by simp [ByteArray.size]; omega), ByteArray.extract_mk]
  simp
theorem run_str_from {P : Program} {t : TypeId} (ht : P.underlying t = some .string) (l : List UInt8) (k : IntKind) (n : Int) (h0 : 0 ≤ n) (h : n ≤ l.length) (w : World) :
    (Instr.slice t (.string ⟨l.toArray⟩) (some (.int k n)) none none).run P w = .ok (.string ⟨(l.drop n.toNat).toArray⟩) w := by
  rw [run_slice_string_l w t ⟨l.toArray⟩ ht k n h0 (by simp [ByteArray.size]; omega), ByteArray.extract_mk, List.take_of_length_le (by simp [ByteArray.size])]
theorem run_str_part {P : Program} {t : TypeId} (ht : P.underlying t = some .string) (l : List UInt8) (k k' : IntKind) (i j : Int) (h0 : 0 ≤ i) (h1 : i ≤ j) (h : j ≤ l.length) (w : World) :
    (Instr.slice t (.string ⟨l.toArray⟩) (some (.int k i)) (some (.int k' j)) none).run P w = .ok (.string ⟨((l.drop i.toNat).take (j.toNat - i.toNat)).toArray⟩) w := by
  rw [run_slice_string w t ⟨l.toArray⟩ k k' i j ht h0 h1 (by simp [ByteArray.size]; omega), ByteArray.extract_mk]
@[simp] theorem be4_length (n : Nat) : (be4 n).length = 4 := rfl
/-- two strings one behind the other -/
theorem wpList_add_str {ops : Array Oper} {rest : List Oper} {o : Oper} {a : Act} {Q : Exit → Act → World → Prop} {w : World} (hgd : o.guard = none) (x y : Operand) (ho : o.op = .binOp .add 9 x y 9) (p q : List UInt8)
    (hx : a.eval x = .string ⟨p.toArray⟩) (hy : a.eval y = .string ⟨q.toArray⟩) (hl : p.length + q.length ≤ 9223372036854775807)
    (h : wpList Tryz.prog ops Q rest (a.put o.dst (.string ⟨(p ++ q).toArray⟩)) w) : wpList Tryz.prog ops Q (o :: rest) a w :=
  wpList_plain hgd fun K hK => by
    have hr : (Op.stringOp .add ⟨p.toArray⟩ ⟨q.toArray⟩).run Tryz.prog w = .ok (.string ⟨(p ++ q).toArray⟩) w := by
      rw [run_string_add_sum w _ _ (by simp [ByteArray.size]; omega), ByteArray.mk_append_mk]
    unfold Oper.wp execOp
    simp only [ho, hx, hy]
    go_simp
    exact hK _ _ h

/-- a number as a byte -/
def byteOf (n : Int) : UInt8 := UInt8.ofNat (n % 256).toNat
theorem byteOf_toNat (n : Int) : ((byteOf n).toNat : Int) = n % 256 := by
  unfold byteOf
  simp
  omega
set_option maxHeartbeats 400000 in
theorem plainSeal_any (kind : Int) (l : List UInt8) (w : World) (hl : l.length ≤ maxB) :
    Calls Tryz.prog 27 #[.int .i64 kind, .string ⟨l.toArray⟩] w fun e w' => e = .returned (.string ⟨(sealB (byteOf kind) l).toArray⟩) ∧ Below w.heap.size w w' := by
  have HK := Lib.hid (byteOf_toNat kind)
  go_enter Tryz.func27, Tryz.ntmps27
  go_wp2_with (first
    | (refine wpList_bytes_of rfl (.tmp 7) rfl l rfl hl ?_; intro cap w1 hown1 hb1 hs1)
    | (go_at_call 58; rw [← HK.out]; refine (Seal_any (byteOf kind) _ l _ hown1.bytes hl).mono ?_; rintro e w2 ⟨v2, rfl, hown2, hb2⟩)
    | (refine wpList_string_of rfl (.tmp 9) rfl _ hown2.bytes ?_))
  go_ret
  exact ⟨rfl, hb1.trans (hb2.mono (by omega))⟩
end Go.Proofs.YtkkfmkhbdoeglaaGreatDoor

/- Conversions to strings and sums of strings as steps of a region that draws its order. No condition. -/
namespace Go.Proofs.YtkkfmkhbdoeglaaGreatDoor
open Go.RowKit

theorem step_string_of {ops : Array Oper} {o : Oper} {a : Act} {K : Act → World → Prop} {Q : Exit → Act → World → Prop} {E : Prop} {w : World} (hgd : o.guard = none) (x : Operand) (ho : o.op = .convert 59 9 x) (l : List UInt8) (hx : BytesAt w (a.eval x) l)
    (h : K (a.put o.dst (.string ⟨l.toArray⟩)) w) : if Region.wanted o (yielded ops a.tmps) = true then Oper.wp Tryz.prog o a w K Q else E := by
  have hw : Region.wanted o (yielded ops a.tmps) = true := by simp [Region.wanted, hgd]
  rw [if_pos hw]
  exact wp_string_of x ho l hx h
theorem wp_add_str {o : Oper} {a : Act} {K : Act → World → Prop} {Q : Exit → Act → World → Prop} {w : World} (x y : Operand) (ho : o.op = .binOp .add 9 x y 9) (p q : List UInt8)
    (hx : a.eval x = .string ⟨p.toArray⟩) (hy : a.eval y = .string ⟨q.toArray⟩) (hl : p.length + q.length ≤ 9223372036854775807)
    (h : K (a.put o.dst (.string ⟨(p ++ q).toArray⟩)) w) : o.wp Tryz.prog a w K Q := by
  have hr : (Op.stringOp .add ⟨p.toArray⟩ ⟨q.toArray⟩).run Tryz.prog w = .ok (.string ⟨(p ++ q).toArray⟩) w := by
    rw [run_string_add_sum w _ _ (by simp [ByteArray.size]; omega), ByteArray.mk_append_mk]
  unfold Oper.wp execOp
  simp only [ho, hx, hy]
  go_simp
  exact h
theorem step_add_str {ops : Array Oper} {o : Oper} {a : Act} {K : Act → World → Prop} {Q : Exit → Act → World → Prop} {E : Prop} {w : World} (hgd : o.guard = none) (x y : Operand) (ho : o.op = .binOp .add 9 x y 9) (p q : List UInt8)
    (hx : a.eval x = .string ⟨p.toArray⟩) (hy : a.eval y = .string ⟨q.toArray⟩) (hl : p.length + q.length ≤ 9223372036854775807)
    (h : K (a.put o.dst (.string ⟨(p ++ q).toArray⟩)) w) : if Region.wanted o (yielded ops a.tmps) = true then Oper.wp Tryz.prog o a w K Q else E := by
  have hw : Region.wanted o (yielded ops a.tmps) = true := by simp [Region.wanted, hgd]
  rw [if_pos hw]
  exact wp_add_str x y ho p q hx hy hl h
end Go.Proofs.YtkkfmkhbdoeglaaGreatDoor
