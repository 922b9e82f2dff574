/- A part of what is proved here: lemmas and contracts of single functions. No condition but those that each names. -/
import Derived.Test.YtkkfmkhbdoeglabGreatDoorG11
import Derived.Test.YtkkfmkhbdoeglabGreatDoorG13
import Derived.Test.YtkkfmkhbdoeglabGreatDoorG21
namespace Go.Proofs.YtkkfmkhbdoeglabGreatDoor
open Go.RowKit
/-- the cells of the changes from k on -/
def OpsFrom (w : World) (g off k : Nat) (os : List OpB) : Prop := ∀ j (h : j < os.length), k ≤ j →
  w.cell? ⟨g, off + j * 4, none⟩ = some (.int .i64 os[j].kind) ∧ w.cell? ⟨g, off + j * 4 + 1, none⟩ = some (.int .i64 os[j].table) ∧ w.cell? ⟨g, off + j * 4 + 2, none⟩ = some (.string ⟨os[j].key.toArray⟩) ∧ w.cell? ⟨g, off + j * 4 + 3, none⟩ = some (.string ⟨os[j].val.toArray⟩)
/-- the loop of plain.Encode: the call's own copy of the changes is struck, one by one -/
def StruckRel (w1 : World) (g off n : Nat) (os : List OpB) (i : Value) (wr : World) : Prop :=
  ∃ k : Nat, k ≤ n ∧ i = .int .i64 k ∧ OpsFrom wr g off k os ∧ (∀ i, i < n * 4 → wr.frozen? ⟨g, off + i, none⟩ = false) ∧ g < wr.heap.size ∧ Ext (fun b => b = g) w1 wr
def struck (w : World) (g o : Nat) : World := (((w.setCell ⟨g, o, none⟩ (.int .i64 0)).setCell ⟨g, o + 1, none⟩ (.int .i64 0)).setCell ⟨g, o + 2, none⟩ (.string ⟨#[]⟩)).setCell ⟨g, o + 3, none⟩ (.string ⟨#[]⟩)
theorem cell_apart3 {w : World} {b c i : Nat} {x y z v : Value} (hne : c ≠ b) (h : w.cell? ⟨c, i, none⟩ = some v) : (((w.setCell ⟨b, 0, none⟩ x).setCell ⟨b, 1, none⟩ y).setCell ⟨b, 2, none⟩ z).cell? ⟨c, i, none⟩ = some v := by
  rw [World.cell?_of_block (w := w) (a := ⟨c, i, none⟩) ((Below.heap_setCell _ ⟨b, 2, none⟩ z c hne).trans ((Below.heap_setCell _ ⟨b, 1, none⟩ y c hne).trans (Below.heap_setCell w ⟨b, 0, none⟩ x c hne)))]
  exact h
theorem struck_cell (w : World) (g o i : Nat) (h : i < o ∨ o + 4 ≤ i) : (struck w g o).cell? ⟨g, i, none⟩ = w.cell? ⟨g, i, none⟩ := by
  unfold struck
  rw [World.cell?_setCell_other (h := by simp <;> omega), World.cell?_setCell_other (h := by simp <;> omega), World.cell?_setCell_other (h := by simp <;> omega), World.cell?_setCell_other (h := by simp <;> omega)]
theorem struck_frozen (w : World) (g o i : Nat) : (struck w g o).frozen? ⟨g, i, none⟩ = w.frozen? ⟨g, i, none⟩ := by
  unfold struck
  simp only [World.frozen?_setCell]
theorem struck_size (w : World) (g o : Nat) : (struck w g o).heap.size = w.heap.size := by
  unfold struck
  simp only [size_setCell]
theorem struck_ext {S : Nat → Prop} {w0 w : World} (h : Ext S w0 w) (g o : Nat) (hg : S g) : Ext S w0 (struck w g o) :=
  (((h.setCell _ _ (.inl hg)).setCell _ _ (.inl hg)).setCell _ _ (.inl hg)).setCell _ _ (.inl hg)
theorem StruckRel.step {w1 wr : World} {g off n k : Nat} {os : List OpB} (hk : k < n) (h1 : OpsFrom wr g off k os) (h2 : ∀ i, i < n * 4 → wr.frozen? ⟨g, off + i, none⟩ = false) (h3 : g < wr.heap.size) (h4 : Ext (fun b => b = g) w1 wr) :
    StruckRel w1 g off n os (.int .i64 ((k + 1 : Nat) : Int)) (struck wr g (off + k * 4)) := by
  refine ⟨k + 1, hk, rfl, fun j hj hkj => ?_, fun i hi => ?_, by rw [struck_size]; exact h3, struck_ext h4 g _ rfl⟩
  · obtain ⟨c0, c1, c2, c3⟩ := h1 j hj (by omega)
    exact ⟨(struck_cell wr g _ _ (by omega)).trans c0, (struck_cell wr g _ _ (by omega)).trans c1, (struck_cell wr g _ _ (by omega)).trans c2, (struck_cell wr g _ _ (by omega)).trans c3⟩
  · rw [struck_frozen]
    exact h2 i hi
end Go.Proofs.YtkkfmkhbdoeglabGreatDoor
