/- More words for the heap: stores into a block that is known whole. -/
import Derived.Test.YtkkfmkhbdoeglaaDoorHeap
namespace Go.Proofs.YtkkfmkhbdoeglaaDoor
open Go.RowKit

/-- steps that leave all old blocks alone, one behind the other -/
theorem _root_.Go.RowKit.Below.tn {w w1 w2 : World} (h : Below w.heap.size w w1) (k : Below w1.heap.size w1 w2) : Below w.heap.size w w2 := h.trans (k.mono h.size)
theorem _root_.Go.RowKit.Below.al {w w1 : World} (h : Below w.heap.size w w1) (o : Obj) : Below w.heap.size w (w1.alloc o) := h.alloc h.size o
theorem _root_.Go.RowKit.Below.rf (w : World) : Below w.heap.size w w := Below.refl _ w
theorem heap_setCell (w : World) (b o : Nat) (v : Value) {C : Array Value} {T : TypeId} {fz : Nat × Nat} (h : w.heap[b]? = some (.cells C T fz)) :
    (w.setCell ⟨b, o, none⟩ v).heap[b]? = some (.cells (C.setIfInBounds o v) T fz) := by
  simp only [World.setCell, Array.getElem?_modify, if_pos, h]
  rfl
theorem size_setCell (w : World) (a : Addr) (v : Value) : (w.setCell a v).heap.size = w.heap.size := by simp [World.setCell]
theorem Ext.setCell {S : Nat → Prop} {a w : World} (h : Ext S a w) (p : Addr) (v : Value) (hp : S p.block ∨ a.heap.size ≤ p.block) : Ext S a (w.setCell p v) :=
  h.trans' (T := fun k => k = p.block) ⟨rfl, rfl, rfl, by rw [size_setCell]; exact Nat.le_refl _, fun k _ hs => Below.heap_setCell w p v k hs⟩ (fun i e => by rw [e]; exact hp)
theorem Ext.alloc {S : Nat → Prop} {a w : World} (h : Ext S a w) (o : Obj) : Ext S a (w.alloc o) := h.trans (Ext.of_new ((Below.refl _ w).alloc (Nat.le_refl _) o))
theorem Ext.drewN {S : Nat → Prop} {a w : World} (h : Ext S a w) (n : Nat) : Ext S a (w.drewN n) := ⟨h.os, h.tape, h.output, h.size, h.block⟩
theorem Ext.drew {S : Nat → Prop} {a w : World} (h : Ext S a w) : Ext S a w.drew := ⟨h.os, h.tape, h.output, h.size, h.block⟩
theorem heap_old (w : World) (o : Obj) {b : Nat} {x : Obj} (h : w.heap[b]? = some x) : (w.alloc o).heap[b]? = some x := (Below.heap_alloc w o b (block_lt h)).trans h

theorem SliceAt.setCell_other {w : World} {v : Value} {k n : Nat} {xs : List Value} (h : SliceAt w v k n xs) (p : Addr) (u : Value) (hp : v.ownBlock ≠ some p.block) : SliceAt (w.setCell p u) v k n xs :=
  h.frame fun b hb _ => Below.heap_setCell w p u b (fun e => hp (by rw [hb, e]))
theorem BytesAt.setCell_other {w : World} {v : Value} {l : List UInt8} (h : BytesAt w v l) (p : Addr) (u : Value) (hp : v.ownBlock ≠ some p.block) : BytesAt (w.setCell p u) v l := SliceAt.setCell_other h p u hp
theorem OwnS.apart {w : World} {base k : Nat} {v : Value} {n : Nat} {xs : List Value} (h : OwnS w base k v n xs) {b : Nat} (hb : b < base) : v.ownBlock ≠ some b := fun e => by have := h.ownBlock_ge b e; omega

/-- the package-level variable that errors.As reads -/
def ErrVar (w : World) : Prop := 2 ≤ w.heap.size ∧ w.cell? ⟨1, 0, none⟩ = some (.iface 183 (.agg #[.pointer (some ⟨2, 80, none⟩)]))
theorem ErrVar.below {B : Nat} {w w' : World} (h : ErrVar w) (hb : Below B w w') (hB : 2 ≤ B) : ErrVar w' :=
  ⟨Nat.le_trans h.1 hb.size, (hb.cell (p := ⟨1, 0, none⟩) (Nat.lt_of_lt_of_le (by decide : 1 < 2) hB)).trans h.2⟩
theorem ErrVar.ext {S : Nat → Prop} {w w' : World} (h : ErrVar w) (hb : Ext S w w') (hS : ∀ k, S k → 2 ≤ k) : ErrVar w' :=
  ⟨Nat.le_trans h.1 hb.size, hb.cell (p := ⟨1, 0, none⟩) (fun e => absurd (hS _ e) (by decide)) h.2⟩
theorem ErrVar.new {w w' : World} (h : ErrVar w) (hb : Below w.heap.size w w') : ErrVar w' := h.below hb h.1
end Go.Proofs.YtkkfmkhbdoeglaaDoor
