/- The contract of package plain's Encode. No condition. -/
import Derived.Test.YtkkfmkhbdoeglaaGreatDoorEncode
import Derived.Test.YtkkfmkhbdoeglaaGreatDoorHeap4
import Derived.Test.YtkkfmkhbdoeglaaGreatDoorRefOp
import Derived.Test.YtkkfmkhbdoeglaaGreatDoorPlainB
namespace Go.Proofs.YtkkfmkhbdoeglaaGreatDoor
open Go.RowKit

/-- the cells of the changes from k on -/
def OpsFrom (w : World) (g off k : Nat) (os : List OpB) : Prop := ∀ j (h : j < os.length), k ≤ j →
  w.cell? ⟨g, off + j * 4, none⟩ = some (.int .i64 os[j].kind) ∧ w.cell? ⟨g, off + j * 4 + 1, none⟩ = some (.int .i64 os[j].table) ∧ w.cell? ⟨g, off + j * 4 + 2, none⟩ = some (.string ⟨os[j].key.toArray⟩) ∧ w.cell? ⟨g, off + j * 4 + 3, none⟩ = some (.string ⟨os[j].val.toArray⟩)
/-- the loop of plain.Encode: the call's own copy of the changes is struck, one by one -/
def StruckRel (w1 : World) (g off n : Nat) (os : List OpB) (i : Value) (wr : World) : Prop :=
  ∃ k : Nat, k ≤ n ∧ i = .int .i64 k ∧ OpsFrom wr g off k os ∧ (∀ i, i < n * 4 → wr.frozen? ⟨g, off + i, none⟩ = false) ∧ g < wr.heap.size ∧ Ext (fun b => b = g) w1 wr
def struck (w : World) (g o : Nat) : World := (((w.setCell ⟨g, o, none⟩ (.int .i64 0)).setCell ⟨g, o + 1, none⟩ (.int .i64 0)).setCell ⟨g, o + 2, none⟩ (.string ⟨#[]⟩)).setCell ⟨g, o + 3, none⟩ (.string ⟨#[]⟩)
theorem cell_apart3 {w : World} {b c i : Nat} {x y z v : Value} (hne : c ≠ b) (h : w.cell? ⟨c, i, none⟩ = some v) : (((w.setCell ⟨b, 0, none⟩ x).setCell ⟨b, 1, none⟩ y).setCell ⟨b, 2, none⟩ z).cell? ⟨c, i, none⟩ = some v := by
  rw [World.cell?_of_block (w := w) (a := ⟨c, i, none⟩) ((Below.heap_setCell _ ⟨b, 2, none⟩ z c hne).trans ((Below.heap_setCell _ ⟨b, 1, none⟩ y c hne).trans (Below.heap_setCell w ⟨b, 0, none⟩ x c hne)))]
  exact h
theorem struck_cell (w : World) (g o i : Nat) (h : i < o ∨ o + 4 ≤ i) : (struck w g o).cell? ⟨g, i, none⟩ = w.cell? ⟨g, i, none⟩ := by
  unfold struck
  rw [World.cell?_setCell_other (h := by simp <;> omega), World.cell?_setCell_other (h := by simp <;> omega), World.cell?_setCell_other (h := by simp <;> omega), World.cell?_setCell_other (h := by simp <;> omega)]
theorem struck_frozen (w : World) (g o i : Nat) : (struck w g o).frozen? ⟨g, i, none⟩ = w.frozen? ⟨g, i, none⟩ := by
  unfold struck
  simp only [World.frozen?_setCell]
theorem struck_size (w : World) (g o : Nat) : (struck w g o).heap.size = w.heap.size := by
  unfold struck
  simp only [size_setCell]
theorem struck_ext {S : Nat → Prop} {w0 w : World} (h : Ext S w0 w) (g o : Nat) (hg : S g) : Ext S w0 (struck w g o) :=
  (((h.setCell _ _ (.inl hg)).setCell _ _ (.inl hg)).setCell _ _ (.inl hg)).setCell _ _ (.inl hg)
theorem StruckRel.step {w1 wr : World} {g off n k : Nat} {os : List OpB} (hk : k < n) (h1 : OpsFrom wr g off k os) (h2 : ∀ i, i < n * 4 → wr.frozen? ⟨g, off + i, none⟩ = false) (h3 : g < wr.heap.size) (h4 : Ext (fun b => b = g) w1 wr) :
    StruckRel w1 g off n os (.int .i64 ((k + 1 : Nat) : Int)) (struck wr g (off + k * 4)) := by
  refine ⟨k + 1, hk, rfl, fun j hj hkj => ?_, fun i hi => ?_, by rw [struck_size]; exact h3, struck_ext h4 g _ rfl⟩
  · obtain ⟨c0, c1, c2, c3⟩ := h1 j hj (by omega)
    exact ⟨(struck_cell wr g _ _ (by omega)).trans c0, (struck_cell wr g _ _ (by omega)).trans c1, (struck_cell wr g _ _ (by omega)).trans c2, (struck_cell wr g _ _ (by omega)).trans c3⟩
  · rw [struck_frozen]
    exact h2 i hi

set_option maxRecDepth 100000 in
set_option maxHeartbeats 1000000 in
theorem plainEncode_good (v : Nat) (sv : Value) (os : List OpB) (w : World) (hs : OpsAt w sv os) (hg : ShapesVar w) (hfit : OpsFit os) (hw : wrongB v os = none) :
    Calls Tryz.prog 42 #[.agg #[.int .u64 v, sv]] w fun e w' => e = .returned (.tuple #[.string ⟨(encB v os).toArray⟩, faultV 0 0 0]) ∧ Below w.heap.size w w' := by
  have hw8 : os.length ≤ 8 ∧ 1 ≤ os.length := by
    unfold wrongB at hw
    split at hw
    · cases hw
    · split at hw
      · cases hw
      · omega
  have HS := Lib.hid hs
  obtain ⟨a, cap, rfl, hcap, -⟩ := hs.opened
  clear hs
  have HW := Lib.hid hw
  clear hw
  obtain ⟨h8, h1⟩ := hw8
  have hs' : OpsAt ((w.alloc (.cells #[.int .u64 (v : Int), .slice a os.length cap] 34)).alloc (.cells #[.int .i64 0, .int .i64 0, .int .i64 0] 38)) (.slice a os.length cap) os := HS.out.below (((Below.refl _ w).alloc (Nat.le_refl _) _).alloc (by simp) _)
  have HS' := Lib.hid hs'
  clear hs'
  have B0 : Hid (((w.alloc (.cells #[.int .u64 (v : Int), .slice a os.length cap] 34)).alloc (.cells #[.int .i64 0, .int .i64 0, .int .i64 0] 38)).heap[w.heap.size]? = some (.cells #[.int .u64 (v : Int), .slice a os.length cap] 34 (0, 0))) := Lib.hid (heap_old _ _ (heap_new w _))
  have R0 : Hid (((w.alloc (.cells #[.int .u64 (v : Int), .slice a os.length cap] 34)).alloc (.cells #[.int .i64 0, .int .i64 0, .int .i64 0] 38)).heap[w.heap.size + 1]? = some (.cells #[.int .i64 0, .int .i64 0, .int .i64 0] 38 (0, 0))) := Lib.hid (by have := heap_new (w.alloc (.cells #[.int .u64 (v : Int), .slice a os.length cap] 34)) (.cells #[.int .i64 0, .int .i64 0, .int .i64 0] 38); simpa using this)
  go_enter Tryz.func42, Tryz.ntmps42
  go_wp2_with (at_builtin; refine wpList_append_ops rfl _ (.tmp 10) rfl (w.heap.size + 1 + 1) (.slice none 0 0) [] rfl (OwnS.nil _ _ _) os (by exact HS'.out) (by simp; omega) (by simp) ?_; intro v2 w2 hown2 hg2 hb2 _; simp only [List.nil_append] at hown2; obtain ⟨sa, scap, rfl⟩ := hown2.shape; have B2 := Lib.hid (below_at hb2 (by omega) B0.out); have R2 := Lib.hid (below_at hb2 (by omega) R0.out); have c0 : w2.cell? ⟨w.heap.size, 0, none⟩ = some (.int .u64 v) := cell_of_row _ _ 0 _ _ _ B2.out; have hlB := block_lt B2.out)
  have HOWN2 := Lib.hid hown2
  have hob2 := hown2.ownBlock_lt
  have HOB2 := Lib.hid hob2
  clear hob2
  have hs2 : w.heap.size + 1 + 1 ≤ w2.heap.size := by simpa using hg2.size
  have b2 : Below w.heap.size w w2 := (((Below.refl _ w).alloc (Nat.le_refl _) _).alloc (by simp) _).trans (hb2.mono (by omega))
  refine (Encode_good v (.slice sa os.length scap) os _ (by exact hown2.ops) (hg.new b2) hfit HW.out).mono ?_
  rintro e w3 ⟨bv, rfl, hown3, hb3⟩
  obtain ⟨ba, bcap, rfl⟩ := hown3.shape
  have B3 := Lib.hid (below_at hb3 (block_lt B2.out) B2.out)
  have R3 := Lib.hid (below_at hb3 (block_lt R2.out) R2.out)
  have HOWN3 := Lib.hid (hown2.below hb3)
  have b3 := b2.tn hb3
  have hel : 1 ≤ (encB v os).length := by unfold encB; simp; omega
  clear hown2
  go_wp2_with fail
  refine (parts_nil _).mono ?_
  rintro e w4 ⟨rfl, hb4⟩
  have B4 := Lib.hid (below_at hb4 (block_lt B3.out) B3.out)
  have R4 := Lib.hid (below_at hb4 (block_lt R3.out) R3.out)
  have HO4 := Lib.hid (HOWN3.out.below hb4)
  have HE4 := Lib.hid (hown3.below hb4)
  have b4 := b3.tn hb4
  have hs4 := hb4.size
  clear hown3
  have hne0 : (((encB v os).length : Int) == 0) = false := by rw [beq_eq_false_iff_ne]; omega
  generalize hL : (encB v os).length = L at *
  clear hel
  obtain ⟨-, hnil | ⟨g, off, cap4, hsl, hg4, hglt, hn4, hm4, hc4, hf4⟩⟩ := HO4.out
  · exact absurd hnil.2 (by omega)
  cases hsl
  have hof4 : OpsFrom w4 g off 0 os := fun j hj _ => by
    have hll := opCells_length os
    obtain ⟨x0, x1, x2, x3⟩ := opCells_at os j hj
    rw [List.getElem?_eq_getElem (by omega)] at x0 x1 x2 x3
    refine ⟨?_, ?_, ?_, ?_⟩
    · rw [hc4 (j * 4) (by omega), x0]
    · rw [Nat.add_assoc, hc4 (j * 4 + 1) (by omega), x1]
    · rw [Nat.add_assoc, hc4 (j * 4 + 2) (by omega), x2]
    · rw [Nat.add_assoc, hc4 (j * 4 + 3) (by omega), x3]
  have HOF := Lib.hid hof4
  have HFR := Lib.hid (fun i (hi : i < os.length * 4) => (hf4 i (by omega)).2)
  clear hof4 hc4 hf4
  go_wp2
  generalize hw5 : w4.alloc (.cells #[.int .i64 0, .int .i64 0, .int .i64 0] 38) = w5
  have t5 : Below w4.heap.size w4 w5 := by rw [← hw5]; exact (Below.refl _ w4).alloc (Nat.le_refl _) _
  have F5 : Hid (w5.heap[w4.heap.size]? = some (.cells #[.int .i64 0, .int .i64 0, .int .i64 0] 38 (0, 0))) := Lib.hid (by rw [← hw5]; exact heap_new w4 _)
  clear hw5
  have b5 := b4.tn t5
  have B5 := Lib.hid (below_at t5 (block_lt B4.out) B4.out)
  have R5 := Lib.hid (below_at t5 (block_lt R4.out) R4.out)
  have HE5 := Lib.hid (HE4.out.below t5)
  have h0 : StruckRel w5 g off os.length os (.int .i64 0) w5 := ⟨0, Nat.zero_le _, rfl, fun j hj hk => by
      obtain ⟨x0, x1, x2, x3⟩ := HOF.out j hj hk
      exact ⟨(t5.cell (p := ⟨g, off + j * 4, none⟩) hglt).trans x0, (t5.cell (p := ⟨g, off + j * 4 + 1, none⟩) hglt).trans x1, (t5.cell (p := ⟨g, off + j * 4 + 2, none⟩) hglt).trans x2, (t5.cell (p := ⟨g, off + j * 4 + 3, none⟩) hglt).trans x3⟩,
    fun i hi => (t5.frozen (p := ⟨g, off + i, none⟩) hglt).trans (HFR.out i hi), Nat.lt_of_lt_of_le hglt t5.size, Ext.refl _ _⟩
  have hs5 := t5.size
  have hlF := block_lt F5.out
  have hgF : g ≠ w4.heap.size := by omega
  clear HOF HFR
  go_loopw [31] (fun i wr => StruckRel w5 g off os.length os i wr) (fun i _ => os.length - (intOf i).toNat)
  case atStart => exact h0
  case round =>
    clear h0
    obtain ⟨k, hk, rfl, hfrom, hfrz, hgl, hx⟩ := hrel
    have hsr := hx.size
    have hbr : Below w.heap.size w wr := b5.trans (hx.below (by have := b5.size; omega) (fun j hj e => by omega))
    have BR := Lib.hid (hx.at (fun e => by omega) B5.out)
    have RR := Lib.hid (hx.at (fun e => by omega) R5.out)
    have FR := Lib.hid (hx.at (fun e => hgF e.symm) F5.out)
    by_cases hlt : k < os.length
    · have q1 : wr.cell? ⟨w.heap.size, 1, none⟩ = some (.slice a os.length cap) := cell_of_row _ _ 1 _ _ _ BR.out
      have hlq := block_lt BR.out
      obtain ⟨a', cap', he, hc', hxx⟩ := (HS.out.below hbr).opened
      cases he
      obtain ⟨b, boff, rfl, c0, c1, c2, c3⟩ := hxx k hlt
      obtain ⟨d0, d1, d2, d3⟩ := hfrom k hlt (Nat.le_refl _)
      have z0 := hfrz (k * 4) (by omega)
      have z1 := hfrz (k * 4 + 1) (by omega)
      have z2 := hfrz (k * 4 + 2) (by omega)
      have z3 := hfrz (k * 4 + 3) (by omega)
      rw [← Nat.add_assoc] at z1 z2 z3
      have HFROM := Lib.hid hfrom
      have HFRZ := Lib.hid hfrz
      have hlt' : (k : Int) < os.length := by omega
      have hcl := cell_lt c0
      have hneq := neq_op os[k].kind os[k].table os[k].key os[k].val
      clear hxx hc' hfrom hfrz
      go_wp2
      go_quiet (fail)
      go_wp2
      exact ⟨StruckRel.step (wr := wr.drewN nq) hlt HFROM.out HFRZ.out hgl (hx.drewN _), by simp [intOf]; omega⟩
    · obtain rfl : k = os.length := by omega
      have hge : ¬ (os.length : Int) < os.length := by omega
      have f0 : wr.cell? ⟨w4.heap.size, 0, none⟩ = some (.int .i64 0) := cell_of_row _ _ 0 _ _ _ FR.out
      have f1 : wr.cell? ⟨w4.heap.size, 1, none⟩ = some (.int .i64 0) := cell_of_row _ _ 1 _ _ _ FR.out
      have f2 : wr.cell? ⟨w4.heap.size, 2, none⟩ = some (.int .i64 0) := cell_of_row _ _ 2 _ _ _ FR.out
      have r0 : wr.cell? ⟨w.heap.size + 1, 0, none⟩ = some (.int .i64 0) := cell_of_row _ _ 0 _ _ _ RR.out
      have r1 : wr.cell? ⟨w.heap.size + 1, 1, none⟩ = some (.int .i64 0) := cell_of_row _ _ 1 _ _ _ RR.out
      have r2 : wr.cell? ⟨w.heap.size + 1, 2, none⟩ = some (.int .i64 0) := cell_of_row _ _ 2 _ _ _ RR.out
      have z0 := frozen_of_row _ _ 0 _ _ RR.out
      have z1 := frozen_of_row _ _ 1 _ _ RR.out
      have z2 := frozen_of_row _ _ 2 _ _ RR.out
      have hlR := block_lt RR.out
      have hlF' := block_lt FR.out
      have hneF : w4.heap.size ≠ w.heap.size + 1 := by omega
      have hg2lt : g < w2.heap.size := HOB2.out g rfl
      have hge5 := HE5.out.ownBlock_ge
      have hbv : BytesAt wr (.slice ba L bcap) (encB v os) :=
        (HE5.out.frame hx.size (fun bb hbb hlt => hx.block bb hlt (fun e => by have := hge5 bb hbb; omega))).bytes
      have hap : (Value.slice ba L bcap).ownBlock ≠ some (w.heap.size + 1) := fun e => by have := hge5 _ e; omega
      clear hge5
      clear hfrom hfrz
      go_wp2
      go_region_held3 (fun w' => Sem.run Tryz.prog (convert 59 9 (.slice ba L bcap)) w' = .ok (.string ⟨(encB v os).toArray⟩) w' ∧ w'.cell? ⟨w4.heap.size, 0, none⟩ = some (.int .i64 0) ∧ w'.cell? ⟨w4.heap.size, 1, none⟩ = some (.int .i64 0) ∧ w'.cell? ⟨w4.heap.size, 2, none⟩ = some (.int .i64 0))
        (first
          | exact ⟨BytesAt.convert (w := wr.drew) hbv, f0, f1, f2⟩
          | exact ⟨BytesAt.convert (w := World.drew _) (((hbv.setCell_other _ _ hap).setCell_other _ _ hap).setCell_other _ _ hap), cell_apart3 hneF f0, cell_apart3 hneF f1, cell_apart3 hneF f2⟩
          | exact ⟨BytesAt.convert (((hbv.setCell_other _ _ hap).setCell_other _ _ hap).setCell_other _ _ hap), cell_apart3 hneF f0, cell_apart3 hneF f1, cell_apart3 hneF f2⟩)
        (fail)
      go_wp2
      have x0 : (((wr.setCell ⟨w.heap.size + 1, 0, none⟩ (.int .i64 0)).setCell ⟨w.heap.size + 1, 1, none⟩ (.int .i64 0)).setCell ⟨w.heap.size + 1, 2, none⟩ (.int .i64 0)).cell? ⟨w.heap.size + 1, 0, none⟩ = some (.int .i64 0) := cell_of_row _ _ 0 _ _ _ (heap_setCell _ _ 2 _ (heap_setCell _ _ 1 _ (heap_setCell _ _ 0 _ RR.out)))
      have x1 : (((wr.setCell ⟨w.heap.size + 1, 0, none⟩ (.int .i64 0)).setCell ⟨w.heap.size + 1, 1, none⟩ (.int .i64 0)).setCell ⟨w.heap.size + 1, 2, none⟩ (.int .i64 0)).cell? ⟨w.heap.size + 1, 1, none⟩ = some (.int .i64 0) := cell_of_row _ _ 1 _ _ _ (heap_setCell _ _ 2 _ (heap_setCell _ _ 1 _ (heap_setCell _ _ 0 _ RR.out)))
      have x2 : (((wr.setCell ⟨w.heap.size + 1, 0, none⟩ (.int .i64 0)).setCell ⟨w.heap.size + 1, 1, none⟩ (.int .i64 0)).setCell ⟨w.heap.size + 1, 2, none⟩ (.int .i64 0)).cell? ⟨w.heap.size + 1, 2, none⟩ = some (.int .i64 0) := cell_of_row _ _ 2 _ _ _ (heap_setCell _ _ 2 _ (heap_setCell _ _ 1 _ (heap_setCell _ _ 0 _ RR.out)))
      refine bodyPost_ret (v := .tuple #[.string ⟨(encB v os).toArray⟩, .agg #[.int .i64 0, .int .i64 0, .int .i64 0]]) (by simp [results, Tryz.results42, go_sem, x0, x1, x2]) rfl ⟨rfl, ?_⟩
      have hB := ((hbr.setCell (p := ⟨w.heap.size + 1, 0, none⟩) (by simp) (.int .i64 0)).setCell (p := ⟨w.heap.size + 1, 1, none⟩) (by simp) (.int .i64 0)).setCell (p := ⟨w.heap.size + 1, 2, none⟩) (by simp) (.int .i64 0)
      exact ⟨hB.os, hB.tape, hB.output, hB.size, hB.block⟩
end Go.Proofs.YtkkfmkhbdoeglaaGreatDoor
