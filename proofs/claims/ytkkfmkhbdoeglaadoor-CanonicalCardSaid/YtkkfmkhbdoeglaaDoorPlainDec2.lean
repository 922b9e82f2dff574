/- The contract of package plain's Decode, whatever the bytes. Condition: errors.As's variable. -/
import Derived.Test.YtkkfmkhbdoeglaaDoorPlainDec
namespace Go.Proofs.YtkkfmkhbdoeglaaDoor
open Go.RowKit

set_option maxRecDepth 100000 in
set_option maxHeartbeats 2000000 in
theorem plainDecode_bad (l : List UInt8) (w : World) (f1 f2 : Nat) (hg : ShapesVar w) (hge : ErrVar w) (hl : l.length ≤ maxB) (hd : decB l = .inr (f1, f2)) (hf1 : 1 ≤ f1) (hf2 : f1 ≤ 14) :
    Calls Tryd.prog 25 #[.string ⟨l.toArray⟩] w fun e w' => e = .returned (.tuple #[.agg #[.int .u64 0, .slice none 0 0], faultV f1 f2 0]) ∧ Below w.heap.size w w' := by
  have HD := Lib.hid hd
  clear hd
  have hl' := hl
  unfold maxB at hl'
  have hq : (l == l) = true := beq_self_eq_true l
  have R0 : Hid (((w.alloc (.cells #[.int .u64 0, .slice none 0 0] 46)).alloc (.cells #[.int .i64 0, .int .i64 0, .int .i64 0] 28)).heap[w.heap.size]? = some (.cells #[.int .u64 0, .slice none 0 0] 46 (0, 0))) := Lib.hid (heap_old _ _ (heap_new w _))
  have Q0 : Hid (((w.alloc (.cells #[.int .u64 0, .slice none 0 0] 46)).alloc (.cells #[.int .i64 0, .int .i64 0, .int .i64 0] 28)).heap[w.heap.size + 1]? = some (.cells #[.int .i64 0, .int .i64 0, .int .i64 0] 28 (0, 0))) := Lib.hid (by have := heap_new (w.alloc (.cells #[.int .u64 0, .slice none 0 0] 46)) (.cells #[.int .i64 0, .int .i64 0, .int .i64 0] 28); simpa using this)
  go_enter Tryd.func25, Tryd.ntmps25
  go_wp2_with (refine wpList_bytes_of rfl (.tmp 9) rfl l rfl hl ?_; intro cap w1 hown1 hb1 hs1; have R1 := Lib.hid (below_at hb1 (by simp <;> omega) R0.out); have Q1 := Lib.hid (below_at hb1 (by simp) Q0.out); simp only [World.size_alloc] at hown1 hb1 hs1)
  have b1 : Below w.heap.size w w1 := (((Below.refl _ w).alloc (Nat.le_refl _) _).alloc (by simp) _).trans (hb1.mono (by omega))
  refine (Decode_any _ l _ (by exact hown1.bytes) (fun b hb => by cases hb; omega) hl (hg.new b1)).mono ?_
  rintro e w2 ⟨hb2, hpost⟩
  rw [HD.out] at hpost
  obtain ⟨ev, rfl, gf, rfl, hgf, hfa⟩ := hpost
  have HFA := Lib.hid hfa
  clear hfa
  have R2 := Lib.hid (below_at hb2 (block_lt R1.out) R1.out)
  have Q2 := Lib.hid (below_at hb2 (block_lt Q1.out) Q1.out)
  have hob1 := hown1.below hb2
  have b2 := b1.tn hb2
  have hs2 := hb2.size
  have D2 := Lib.hid (heap_new w2 (.cells #[.int .u64 0, .slice none 0 0] 46))
  have HB1 := Lib.hid hob1
  clear hown1 hob1
  go_wp2_with fail
  refine (parts_fault gf f1 f2 _ ((hge.new b2).new ((Below.refl _ w2).alloc (Nat.le_refl _) _)) (heap_old w2 _ HFA.out) (by omega) (by omega)).mono ?_
  rintro e w3 ⟨rfl, hb3⟩
  have t3 : Below w2.heap.size w2 w3 := (((Below.refl _ w2).alloc (Nat.le_refl _) _)).trans (hb3.mono (by simp))
  have R3 := Lib.hid (below_at t3 (block_lt R2.out) R2.out)
  have Q3 := Lib.hid (below_at t3 (block_lt Q2.out) Q2.out)
  have D3 := Lib.hid (below_at hb3 (by simp) D2.out)
  have HB3 := Lib.hid (HB1.out.below t3)
  have b3 := b2.tn t3
  have hs3 := t3.size
  have hlD := block_lt D3.out
  go_wp2_with (refine wpList_string_of rfl (.tmp 18) rfl l (by exact (HB3.out.below ((Below.refl _ w3).alloc (Nat.le_refl _) _)).bytes) ?_)
  generalize hw4 : w3.alloc (.cells #[.int .i64 f1, .int .i64 f2, .int .i64 0] 28) = w4
  have t4 : Below w3.heap.size w3 w4 := by rw [← hw4]; exact (Below.refl _ w3).alloc (Nat.le_refl _) _
  have F4 : Hid (w4.heap[w3.heap.size]? = some (.cells #[.int .i64 f1, .int .i64 f2, .int .i64 0] 28 (0, 0))) := Lib.hid (by rw [← hw4]; exact heap_new w3 _)
  clear hw4
  have b4 := b3.tn t4
  have hs4 := t4.size
  have R4 := Lib.hid (below_at t4 (block_lt R3.out) R3.out)
  have Q4 := Lib.hid (below_at t4 (block_lt Q3.out) Q3.out)
  have D4 := Lib.hid (below_at t4 (block_lt D3.out) D3.out)
  have hfree : ∀ i, i < l.length → (w4.cell? ⟨w.heap.size + 1 + 1, i, none⟩).isSome = true ∧ w4.frozen? ⟨w.heap.size + 1 + 1, i, none⟩ = false := by
    obtain ⟨-, hx | ⟨g, off, cap2, he, _, _, hn, _, _, hf⟩⟩ := HB3.out.below t4
    · cases hx.1
    · cases he
      intro i hi
      have := hf i (by omega)
      rw [Nat.zero_add] at this
      exact this
  have h0 : BytesFree w4 (w.heap.size + 1 + 1) l.length (.int .i64 0) w4 := ⟨0, Nat.zero_le _, rfl, hfree, by omega, Ext.refl _ _⟩
  clear hfree
  go_loopw [25] (fun i wr => BytesFree w4 (w.heap.size + 1 + 1) l.length i wr) (fun i _ => l.length - (intOf i).toNat)
  case atStart => exact h0
  case round =>
    clear h0
    obtain ⟨k, hk, rfl, hfr, hgl, hx⟩ := hrel
    have hsr := hx.size
    by_cases hlt : k < l.length
    · have hlt' : (k : Int) < l.length := by omega
      obtain ⟨hsome, hz⟩ := hfr k hlt
      obtain ⟨ov, hov⟩ := Option.isSome_iff_exists.1 hsome
      have HFR := Lib.hid hfr
      clear hfr hsome
      go_wp2
      exact ⟨BytesFree.step hlt HFR.out hgl hx, by simp [intOf]; omega⟩
    · obtain rfl : k = l.length := by omega
      have hge : ¬ (l.length : Int) < l.length := by omega
      have hbr : Below w.heap.size w wr := b4.trans (hx.below (by have := b4.size; omega) (fun j hj e => by omega))
      have RR := Lib.hid (hx.at (fun e => by omega) R4.out)
      have QR := Lib.hid (hx.at (fun e => by omega) Q4.out)
      have DR := Lib.hid (hx.at (fun e => by omega) D4.out)
      have FR := Lib.hid (hx.at (fun e => by omega) F4.out)
      have p0 : wr.cell? ⟨w2.heap.size, 0, none⟩ = some (.int .u64 0) := cell_of_row _ _ 0 _ _ _ DR.out
      have p1 : wr.cell? ⟨w2.heap.size, 1, none⟩ = some (.slice none 0 0) := cell_of_row _ _ 1 _ _ _ DR.out
      have g0 : wr.cell? ⟨w3.heap.size, 0, none⟩ = some (.int .i64 f1) := cell_of_row _ _ 0 _ _ _ FR.out
      have g1 : wr.cell? ⟨w3.heap.size, 1, none⟩ = some (.int .i64 f2) := cell_of_row _ _ 1 _ _ _ FR.out
      have g2 : wr.cell? ⟨w3.heap.size, 2, none⟩ = some (.int .i64 0) := cell_of_row _ _ 2 _ _ _ FR.out
      have r0 : wr.cell? ⟨w.heap.size, 0, none⟩ = some (.int .u64 0) := cell_of_row _ _ 0 _ _ _ RR.out
      have r1 : wr.cell? ⟨w.heap.size, 1, none⟩ = some (.slice none 0 0) := cell_of_row _ _ 1 _ _ _ RR.out
      have q0 : wr.cell? ⟨w.heap.size + 1, 0, none⟩ = some (.int .i64 0) := cell_of_row _ _ 0 _ _ _ QR.out
      have q1 : wr.cell? ⟨w.heap.size + 1, 1, none⟩ = some (.int .i64 0) := cell_of_row _ _ 1 _ _ _ QR.out
      have q2 : wr.cell? ⟨w.heap.size + 1, 2, none⟩ = some (.int .i64 0) := cell_of_row _ _ 2 _ _ _ QR.out
      have z0 := frozen_of_row _ _ 0 _ _ RR.out
      have z1 := frozen_of_row _ _ 1 _ _ RR.out
      have y0 := frozen_of_row _ _ 0 _ _ QR.out
      have y1 := frozen_of_row _ _ 1 _ _ QR.out
      have y2 := frozen_of_row _ _ 2 _ _ QR.out
      have hl1 := block_lt RR.out
      have hl2 := block_lt QR.out
      have hl3 := block_lt DR.out
      have hl4 := block_lt FR.out
      have n1 : w2.heap.size ≠ w.heap.size := by omega
      have n2 : w2.heap.size ≠ w.heap.size + 1 := by omega
      have n3 : w3.heap.size ≠ w.heap.size := by omega
      have n4 : w3.heap.size ≠ w.heap.size + 1 := by omega
      clear hfr
      go_wp2
      go_region
      have X := set23_at (show w.heap.size ≠ w.heap.size + 1 by omega) RR.out QR.out (.int .u64 0) (.slice none 0 0) (.int .i64 f1) (.int .i64 f2) (.int .i64 0)
      have HE := set23_ext wr w.heap.size (w.heap.size + 1) (.int .u64 0) (.slice none 0 0) (.int .i64 f1) (.int .i64 f2) (.int .i64 0)
      have hB := hbr.trans (HE.below hbr.size (fun j hj e => by omega))
      unfold set23 at X HE hB
      obtain ⟨x0, x1, x2, x3, x4⟩ := X
      go_wp2
      refine bodyPost_ret (v := .tuple #[.agg #[.int .u64 0, .slice none 0 0], .agg #[.int .i64 f1, .int .i64 f2, .int .i64 0]]) (by simp [results, Tryd.results25, go_sem, x0, x1, x2, x3, x4]) rfl ⟨rfl, hB.drew⟩
/-- what plain.Decode tells -/
def PlainDecPost (l : List UInt8) (w : World) (e : Ending) (w' : World) : Prop :=
  Below w.heap.size w w' ∧ match decB l with
    | .inl (n, os) => ∃ sv, e = .returned (.tuple #[.agg #[.int .u64 n, sv], faultV 0 0 0]) ∧ OwnS w' w.heap.size 4 sv os.length (opCells os)
    | .inr (k, p) => e = .returned (.tuple #[.agg #[.int .u64 0, .slice none 0 0], faultV k p 0])
theorem plainDecode_any (l : List UInt8) (w : World) (hg : ShapesVar w) (hge : ErrVar w) (hl : l.length ≤ maxB) :
    Calls Tryd.prog 25 #[.string ⟨l.toArray⟩] w (PlainDecPost l w) := by
  cases hd : decB l with
  | inl x =>
    obtain ⟨n, os⟩ := x
    refine (plainDecode_good l w n os hg hl hd).mono fun e w' ⟨h1, h2⟩ => ⟨h2, ?_⟩
    rw [hd]
    exact h1
  | inr x =>
    obtain ⟨k, p⟩ := x
    have hk := refDecB_at (by rw [← decB_ref]; exact hd)
    refine (plainDecode_bad l w k p hg hge hl hd hk.1 hk.2.1).mono fun e w' ⟨h1, h2⟩ => ⟨h2, ?_⟩
    rw [hd]
    exact h1
end Go.Proofs.YtkkfmkhbdoeglaaDoor
