/- A part of what is proved here: lemmas and contracts of single functions. No condition but those that each names. -/
import Derived.BigRegion
import Derived.Deep.OwnRows
import Derived.Test.YtkkfmkhbdoeglabGreatDoorG02
import Derived.Test.YtkkfmkhbdoeglabGreatDoorG04
namespace Go.Proofs.YtkkfmkhbdoeglabGreatDoor
open Go.RowKit
/-- a cursor, in plain data -/
structure Cu where
  l : List UInt8
  at' : Nat
  to : Nat
  f : Option (Nat × Nat)
def Cu.take (c : Cu) (n : Nat) : Cu × List UInt8 :=
  match c.f with
  | some _ => (c, List.replicate n 0)
  | none => if c.l.length < c.to + n then ({ c with f := some (1, c.to) }, List.replicate n 0) else ({ c with at' := c.to, to := c.to + n }, (c.l.drop c.to).take n)
def Cu.must (c : Cu) (ok : Bool) (k : Nat) : Cu :=
  match c.f with
  | some _ => c
  | none => if ok then c else { c with f := some (k, c.at') }
def Cu.ended (c : Cu) : Cu :=
  match c.f with
  | some _ => c
  | none => if c.to < c.l.length then { c with f := some (2, c.to) } else c
/-- a cursor's field for its fault -/
def FaultP (w : World) (base : Nat) (fp : Option Addr) (f : Option (Nat × Nat)) : Prop :=
  match f with
  | none => fp = none
  | some (k, n) => ∃ g, fp = some ⟨g, 0, none⟩ ∧ base ≤ g ∧ w.heap[g]? = some (.cells #[.int .i64 k, .int .i64 n, .nilIface] 186 (0, 0))
/-- a block holds a cursor, and the blocks of its faults lie from base on -/
def CurAt (w : World) (base c : Nat) (cu : Cu) : Prop :=
  cu.to ≤ cu.l.length ∧ cu.at' ≤ cu.to ∧ cu.l.length ≤ maxB ∧ base ≤ c ∧
  ∃ v fp, w.heap[c]? = some (.cells #[v, .int .i64 cu.at', .int .i64 cu.to, .pointer fp] 254 (0, 0)) ∧ BytesAt w v cu.l ∧ (∀ b, v.ownBlock = some b → b < c) ∧ FaultP w base fp cu.f
theorem FaultP.old {w w' : World} {base : Nat} {fp : Option Addr} {f : Option (Nat × Nat)} (h : FaultP w base fp f) (hb : ∀ g, base ≤ g → (∃ k n, w.heap[g]? = some (.cells #[.int .i64 k, .int .i64 n, .nilIface] 186 (0, 0))) → w'.heap[g]? = w.heap[g]?) : FaultP w' base fp f := by
  cases f with
  | none => exact h
  | some x =>
    obtain ⟨g, h1, h2, h3⟩ := h
    exact ⟨g, h1, h2, by rw [hb g h2 ⟨_, _, h3⟩]; exact h3⟩
theorem CurAt.lt {w : World} {base c : Nat} {cu : Cu} (h : CurAt w base c cu) : c < w.heap.size := by
  obtain ⟨h1, h2, h3, h4, v, fp, h5, h6⟩ := h
  exact block_lt h5
theorem CurAt.old {w w' : World} {base c : Nat} {cu : Cu} (h : CurAt w base c cu) (hb : Below w.heap.size w w') : CurAt w' base c cu := by
  obtain ⟨h1, h2, h3, h4, v, fp, h5, h6, h7, h8⟩ := h
  refine ⟨h1, h2, h3, h4, v, fp, below_at hb (block_lt h5) h5, h6.below hb, h7, h8.old fun g _ ⟨k, n, hg⟩ => hb.block g (block_lt hg)⟩
/-- kept by whatever writes one other block, a later one, which is no fault -/
theorem CurAt.grown {w w' : World} {base c : Nat} {cu : Cu} {r : Nat} (h : CurAt w base c cu) (hb : w.grownBy w' (some r)) (hr : c < r) (hn : ∀ k n, w.heap[r]? ≠ some (.cells #[.int .i64 k, .int .i64 n, .nilIface] 186 (0, 0))) : CurAt w' base c cu := by
  obtain ⟨h1, h2, h3, h4, v, fp, h5, h6, h7, h8⟩ := h
  refine ⟨h1, h2, h3, h4, v, fp, ?_, SliceAt.grown h6 hb ?_, h7, h8.old fun g _ ⟨k, n, hg⟩ => ?_⟩
  · rw [hb.block c (block_lt h5) (fun e => by cases e; omega)]
    exact h5
  · intro b hv e
    cases e
    exact absurd (h7 _ hv) (by omega)
  · exact hb.block g (block_lt hg) (fun e => by cases e; exact hn k n hg)
theorem grownBy_set {w w1 : World} {c : Nat} (hb : Below w.heap.size w w1) (i : Nat) (v : Value) : w.grownBy (w1.setCell ⟨c, i, none⟩ v) (some c) :=
  ⟨hb.os, hb.tape, hb.output, by rw [size_setCell]; exact hb.size, fun k hk hne => (Below.heap_setCell w1 ⟨c, i, none⟩ v k (fun e => hne (by rw [e]))).trans (hb.block k hk)⟩
theorem grownBy_alloc {w w1 : World} {r : Option Nat} (hb : w.grownBy w1 r) (o : Obj) : w.grownBy (w1.alloc o) r :=
  ⟨hb.os, hb.tape, hb.output, Nat.le_trans hb.size (by simp), fun k hk hne => (heap_alloc_old _ _ (Nat.lt_of_lt_of_le hk hb.size)).trans (hb.block k hk hne)⟩
theorem grownBy_set2 {w w1 : World} {c : Nat} (hb : w.grownBy w1 (some c)) (i : Nat) (v : Value) : w.grownBy (w1.setCell ⟨c, i, none⟩ v) (some c) :=
  ⟨hb.os, hb.tape, hb.output, by rw [size_setCell]; exact hb.size, fun k hk hne => (Below.heap_setCell w1 ⟨c, i, none⟩ v k (fun e => hne (by rw [e]))).trans (hb.block k hk hne)⟩
theorem BytesAt.cap' {w : World} {a : Option Addr} {n cap cap' : Nat} {l : List UInt8} (h : BytesAt w (.slice a n cap) l) (hc : n ≤ cap') : BytesAt w (.slice a n cap') l := by
  obtain ⟨hl, a', cap2, he, hcc, hx⟩ := h
  cases he
  exact ⟨hl, a, cap', rfl, hc, hx⟩
end Go.Proofs.YtkkfmkhbdoeglabGreatDoor
namespace Go.Proofs.YtkkfmkhbdoeglabGreatDoor
open Go.RowKit
/-- the number that bytes are, the highest first -/
def numB (l : List UInt8) : Nat := l.foldl (fun v x => v * 256 + x.toNat) 0
theorem Cu.take_length (cu : Cu) (n : Nat) : (cu.take n).2.length = n := by
  unfold Cu.take
  cases cu.f with
  | some x => simp
  | none =>
    by_cases h : cu.l.length < cu.to + n
    · simp [h]
    · simp [h]; omega
end Go.Proofs.YtkkfmkhbdoeglabGreatDoor
