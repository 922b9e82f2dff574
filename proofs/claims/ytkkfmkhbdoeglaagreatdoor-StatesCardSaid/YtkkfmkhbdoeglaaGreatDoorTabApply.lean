/- The contracts of Tables.Apply, and of package plain's Fold and Apply. No condition. -/
import Derived.Test.YtkkfmkhbdoeglaaGreatDoorApply
import Derived.Test.YtkkfmkhbdoeglaaGreatDoorPlainB
namespace Go.Proofs.YtkkfmkhbdoeglaaGreatDoor
open Go.RowKit

set_option maxRecDepth 100000 in
set_option maxHeartbeats 1000000 in
theorem tablesApply_bad (q r : Nat) (S : List E) (v : Nat) (sv : Value) (os : List OpB) (w : World) (_he : EntAt w q 0 r S) (hs : OpsAt w sv os) (hg : ShapesVar w) (hfit : OpsFit os) (f : Nat × Nat) (hw : wrongB v os = some f) :
    Calls Tryz.prog 55 #[.pointer (some ⟨q, 0, none⟩), .agg #[.int .u64 v, sv]] w fun e w' => ∃ ev, e = .returned ev ∧ FaultAt w' w.heap.size ev f.1 f.2 ∧ Below w.heap.size w w' := by
  have hs' : OpsAt (w.alloc (.cells #[.int .u64 (v : Int), sv] 34)) sv os := hs.below ((Below.refl _ w).alloc (Nat.le_refl _) _)
  have HW := Lib.hid hw
  clear hw
  go_enter Tryz.func55, Tryz.ntmps55
  go_wp2_with fail
  refine (checked_any v sv os _ hs' (hg.alloc _) hfit).mono ?_
  rintro e w1 ⟨⟨rr, rfl, fp, rfl, hf⟩, hb1⟩
  rw [HW.out] at hf
  obtain ⟨g, rfl, hg1, hg2⟩ := hf
  have HG2 := Lib.hid hg2
  clear hg2
  go_wp2
  go_ret
  exact ⟨_, rfl, ⟨g, rfl, by simp at hg1; omega, HG2.out⟩, ((Below.refl _ w).alloc (Nat.le_refl _) _).trans (hb1.mono (by simp))⟩
set_option maxRecDepth 100000 in
set_option maxHeartbeats 1000000 in
theorem tablesApply_good (q r : Nat) (S : List E) (v : Nat) (sv : Value) (os : List OpB) (w : World) (he : EntAt w q 0 r S) (hs : OpsAt w sv os) (hg : ShapesVar w) (hfit : OpsFit os) (hw : wrongB v os = none) :
    Calls Tryz.prog 55 #[.pointer (some ⟨q, 0, none⟩), .agg #[.int .u64 v, sv]] w fun e w' => e = .returned .nilIface ∧ TabAt w' r (foldS S os) ∧ Ext (fun i => i = r) w w' := by
  have hb0 : Below w.heap.size w (w.alloc (.cells #[.int .u64 (v : Int), sv] 34)) := (Below.refl _ w).alloc (Nat.le_refl _) _
  have hs' : OpsAt (w.alloc (.cells #[.int .u64 (v : Int), sv] 34)) sv os := hs.below hb0
  have h8 : os.length ≤ 8 := by
    unfold wrongB at hw
    split at hw
    · cases hw
    · split at hw
      · cases hw
      · rename_i h1 h2; omega
  have HW := Lib.hid hw
  have D0 := Lib.hid (heap_new w (.cells #[.int .u64 (v : Int), sv] 34))
  have HE := Lib.hid (he.below hb0)
  clear hw he
  have HS := Lib.hid hs'
  go_enter Tryz.func55, Tryz.ntmps55
  go_wp2_with fail
  refine (checked_any v sv os _ hs' (hg.alloc _) hfit).mono ?_
  rintro e w1 ⟨⟨rr, rfl, fp, rfl, hf⟩, hb1⟩
  rw [HW.out] at hf
  obtain rfl : fp = none := hf
  have D1 := Lib.hid (below_at hb1 (by simp) D0.out)
  have d0 := cell_of_row _ _ 0 _ _ _ D1.out
  have d1 := cell_of_row _ _ 1 _ _ _ D1.out
  have HE1 := Lib.hid (HE.out.below hb1)
  have HS1 := Lib.hid (HS.out.below hb1)
  have b1 : Below w.heap.size w w1 := hb0.trans (hb1.mono (by simp))
  clear hs' hs
  go_wp2
  go_still_tail 4, (by kernel_rfl)
  go_wp2_with fail
  refine (apply_any q 0 r S v sv os w1.drew ⟨HE1.out.cell, HE1.out.tab.old rfl⟩ (HS1.out.below ((Below.refl _ w1).drew)) (by omega)).mono ?_
  rintro e w2 ⟨rfl, ht2, hx2⟩
  have HT2 := Lib.hid ht2
  clear ht2
  go_wp2
  go_ret
  exact ⟨rfl, HT2.out, ((Ext.of_new b1).drew).trans hx2⟩
/-- a pointer to a Folded: its tables read as S -/
structure FoldAt (w : World) (fb q r : Nat) (S : List E) : Prop where
  cell : w.cell? ⟨fb, 0, none⟩ = some (.pointer (some ⟨q, 0, none⟩))
  ent : EntAt w q 0 r S
theorem FoldAt.below {w w' : World} {fb q r : Nat} {S : List E} (h : FoldAt w fb q r S) (hb : Below w.heap.size w w') : FoldAt w' fb q r S :=
  ⟨(hb.cell (p := ⟨fb, 0, none⟩) (cell_lt h.cell)).trans h.cell, h.ent.below hb⟩
theorem FoldAt.step {w w' : World} {fb q r : Nat} {S T : List E} (h : FoldAt w fb q r S) (hx : Ext (fun i => i = r) w w') (ht : TabAt w' r T) : FoldAt w' fb q r T := ⟨hx.cell (cell_not_map h.cell h.ent.tab) h.cell, h.ent.step hx ht⟩
theorem FoldAt.other {w w' : World} {fb q r r' : Nat} {S : List E} (h : FoldAt w fb q r S) (hx : Ext (fun i => i = r') w w') (hf : fb ≠ r') (hq : q ≠ r') (hr : r ≠ r') : FoldAt w' fb q r S :=
  ⟨hx.cell hf h.cell, hx.cell hq h.ent.cell, h.ent.tab.old (hx.block r h.ent.tab.lt hr)⟩
theorem plainFold_any (w : World) :
    Calls Tryz.prog 22 #[] w fun e w' => e = .returned (.tuple #[.pointer (some ⟨w.heap.size + 2, 0, none⟩), .bool true]) ∧ FoldAt w' (w.heap.size + 2) (w.heap.size + 1) w.heap.size [] ∧ Below w.heap.size w w' := by
  go_enter Tryz.func22, Tryz.ntmps22
  go_wp2_with fail
  refine (newTables_any _).mono ?_
  rintro e w1 ⟨rfl, he, hb1, hs1⟩
  have HE := Lib.hid he
  have HS1 := Lib.hid hs1
  clear he hs1
  go_wp2
  go_ret2
  rw [HS1.out]
  have hc := cell_new w1 #[.pointer (some ⟨w.heap.size + 1, 0, none⟩)] 129 (0, 0) 0
  rw [HS1.out] at hc
  exact ⟨rfl, ⟨hc, HE.out.below ((Below.refl _ w1).alloc (Nat.le_refl _) _)⟩, hb1.alloc hb1.size _⟩
/-- what an Apply leaves; what it tells -/
def applyS (v : Nat) (S : List E) (os : List OpB) : List E := match wrongB v os with
  | none => foldS S os
  | some _ => S
def applyV (v : Nat) (os : List OpB) : Value := match wrongB v os with
  | none => faultV 0 0 0
  | some f => faultV f.1 f.2 0
set_option maxRecDepth 100000 in
set_option maxHeartbeats 1000000 in
theorem foldedApply_any (fb q r : Nat) (S : List E) (v : Nat) (sv : Value) (os : List OpB) (w : World) (he : FoldAt w fb q r S) (hs : OpsAt w sv os) (hg : ShapesVar w) (hge : ErrVar w) (hfit : OpsFit os) (_hr : 2 ≤ r) :
    Calls Tryz.prog 23 #[.pointer (some ⟨fb, 0, none⟩), .agg #[.int .u64 v, sv]] w fun e w' => e = .returned (applyV v os) ∧ TabAt w' r (applyS v S os) ∧ Ext (fun i => i = r) w w' := by
  have hb0 : Below w.heap.size w ((w.alloc (.cells #[.int .u64 (v : Int), sv] 34)).alloc (.cells #[.int .i64 0, .int .i64 0, .int .i64 0] 38)) := ((Below.refl _ w).alloc (Nat.le_refl _) _).alloc (by simp) _
  have R0 := heap_new (w.alloc (.cells #[.int .u64 (v : Int), sv] 34)) (.cells #[.int .i64 0, .int .i64 0, .int .i64 0] 38)
  rw [World.size_alloc] at R0
  have HR0 := Lib.hid R0
  have HE0 := Lib.hid (he.below hb0)
  have HS0 := Lib.hid (hs.below hb0)
  have HG0 := Lib.hid (hg.new hb0)
  have HGE0 := Lib.hid (hge.new hb0)
  have HR : Hid (r < w.heap.size) := Lib.hid he.ent.tab.lt
  have D0 := Lib.hid (heap_old (w.alloc (.cells #[.int .u64 (v : Int), sv] 34)) (.cells #[.int .i64 0, .int .i64 0, .int .i64 0] 38) (heap_new w (.cells #[.int .u64 (v : Int), sv] 34)))
  obtain ⟨sa, scap, rfl, -⟩ := hs.opened
  clear R0 he hs hg hge
  go_enter Tryz.func23, Tryz.ntmps23
  go_wp2
  generalize hw0 : (w.alloc (.cells #[.int .u64 (v : Int), .slice sa os.length scap] 34)).alloc (.cells #[.int .i64 0, .int .i64 0, .int .i64 0] 38) = w0
  rw [hw0] at HR0 HE0 HS0 HG0 HGE0 hb0 D0
  clear hw0
  have hs0 := hb0.size
  have d0 := cell_of_row _ _ 0 _ _ _ D0.out
  have d1 := cell_of_row _ _ 1 _ _ _ D0.out
  have hc := HE0.out.cell
  have hlR := block_lt HR0.out
  go_still_tail 5, (by kernel_rfl)
  go_wp2_with fail
  have hdr : Below w0.heap.size w0 w0.drew := (Below.refl _ w0).drew
  cases hw : wrongB v os with
  | none =>
    have HW := Lib.hid hw
    refine (tablesApply_good q r S v _ os w0.drew (HE0.out.below hdr).ent (HS0.out.below hdr) (HG0.out.new hdr) hfit hw).mono ?_
    clear hw
    rintro e w1 ⟨rfl, ht1, hx1⟩
    have HT1 := Lib.hid ht1
    clear ht1 hc d0 d1
    have hne : w.heap.size + 1 ≠ r := by have := HR.out; omega
    have HR1 := Lib.hid (hx1.at hne (show w0.drew.heap[w.heap.size + 1]? = _ from HR0.out))
    go_wp2_with fail
    refine (parts_nil _).mono ?_
    rintro e w2 ⟨rfl, hb2⟩
    have HR2 := Lib.hid (below_at hb2 (block_lt HR1.out) HR1.out)
    have r0 := cell_of_row _ _ 0 _ _ _ HR2.out
    have r1 := cell_of_row _ _ 1 _ _ _ HR2.out
    have r2 := cell_of_row _ _ 2 _ _ _ HR2.out
    have f0 := frozen_of_row _ _ 0 _ _ HR2.out
    have f1 := frozen_of_row _ _ 1 _ _ HR2.out
    have f2 := frozen_of_row _ _ 2 _ _ HR2.out
    have hl2 := block_lt HR2.out
    have x0 := cell_of_row _ _ 0 _ _ _ (heap_setCell _ _ 2 (.int .i64 0) (heap_setCell _ _ 1 (.int .i64 0) (heap_setCell _ _ 0 (.int .i64 0) HR2.out)))
    have x1 := cell_of_row _ _ 1 _ _ _ (heap_setCell _ _ 2 (.int .i64 0) (heap_setCell _ _ 1 (.int .i64 0) (heap_setCell _ _ 0 (.int .i64 0) HR2.out)))
    have x2 := cell_of_row _ _ 2 _ _ _ (heap_setCell _ _ 2 (.int .i64 0) (heap_setCell _ _ 1 (.int .i64 0) (heap_setCell _ _ 0 (.int .i64 0) HR2.out)))
    have hxx : Ext (fun i => i = r) w w2 := (((Ext.of_new hb0).drew).trans hx1).past hb2
    have hT2 := HT1.out.old (hb2.block r HT1.out.lt)
    have HV : Hid (applyV v os = faultV 0 0 0) := Lib.hid (by unfold applyV; rw [HW.out])
    have HS : Hid (applyS v S os = foldS S os) := Lib.hid (by unfold applyS; rw [HW.out])
    have HT2 := Lib.hid hT2
    clear hT2
    go_wp2
    refine bodyPost_ret (v := .agg #[.int .i64 0, .int .i64 0, .int .i64 0]) (by simp [results, Tryz.results23, go_sem, x0, x1, x2]) rfl ⟨by rw [HV.out]; rfl, ?_, ?_⟩
    · rw [HS.out]
      refine HT2.out.old ?_
      rw [Below.heap_setCell _ ⟨w.heap.size + 1, 2, none⟩ _ r (Ne.symm hne), Below.heap_setCell _ ⟨w.heap.size + 1, 1, none⟩ _ r (Ne.symm hne), Below.heap_setCell _ ⟨w.heap.size + 1, 0, none⟩ _ r (Ne.symm hne)]
    · exact ((hxx.setCell _ _ (.inr (by simp))).setCell _ _ (.inr (by simp))).setCell _ _ (.inr (by simp))
  | some f =>
    have hk := wrongB_kind hw
    have HW := Lib.hid hw
    refine (tablesApply_bad q r S v _ os w0.drew (HE0.out.below hdr).ent (HS0.out.below hdr) (HG0.out.new hdr) hfit f hw).mono ?_
    clear hw
    rintro e w1 ⟨ev, rfl, ⟨gf, rfl, hgf, hfa⟩, hb1⟩
    obtain ⟨f1, f2⟩ := f
    have HFA := Lib.hid hfa
    have HR1 := Lib.hid (below_at hb1 (show _ < w0.drew.heap.size from hlR) (show w0.drew.heap[w.heap.size + 1]? = _ from HR0.out))
    have HGE1 := Lib.hid ((HGE0.out.new hdr).new hb1)
    have HT1 := Lib.hid ((HE0.out.below hdr).below hb1).ent.tab
    clear hfa hc d0 d1
    go_wp2_with fail
    refine (parts_fault gf f1 f2 _ HGE1.out HFA.out (by omega) (by omega)).mono ?_
    rintro e w2 ⟨rfl, hb2⟩
    have HR2 := Lib.hid (below_at hb2 (block_lt HR1.out) HR1.out)
    have r0 := cell_of_row _ _ 0 _ _ _ HR2.out
    have r1 := cell_of_row _ _ 1 _ _ _ HR2.out
    have r2 := cell_of_row _ _ 2 _ _ _ HR2.out
    have g0 := frozen_of_row _ _ 0 _ _ HR2.out
    have g1 := frozen_of_row _ _ 1 _ _ HR2.out
    have g2 := frozen_of_row _ _ 2 _ _ HR2.out
    have hl2 := block_lt HR2.out
    have hne : w.heap.size + 1 ≠ r := by have := HR.out; omega
    have x0 := cell_of_row _ _ 0 _ _ _ (heap_setCell _ _ 2 (.int .i64 0) (heap_setCell _ _ 1 (.int .i64 f2) (heap_setCell _ _ 0 (.int .i64 f1) HR2.out)))
    have x1 := cell_of_row _ _ 1 _ _ _ (heap_setCell _ _ 2 (.int .i64 0) (heap_setCell _ _ 1 (.int .i64 f2) (heap_setCell _ _ 0 (.int .i64 f1) HR2.out)))
    have x2 := cell_of_row _ _ 2 _ _ _ (heap_setCell _ _ 2 (.int .i64 0) (heap_setCell _ _ 1 (.int .i64 f2) (heap_setCell _ _ 0 (.int .i64 f1) HR2.out)))
    have hxx : Ext (fun i => i = r) w w2 := (((Ext.of_new hb0).drew).past hb1).past hb2
    have HT2 := Lib.hid (HT1.out.old (hb2.block r HT1.out.lt))
    have HV : Hid (applyV v os = faultV f1 f2 0) := Lib.hid (by unfold applyV; rw [HW.out])
    have HS : Hid (applyS v S os = S) := Lib.hid (by unfold applyS; rw [HW.out])
    go_wp2
    refine bodyPost_ret (v := .agg #[.int .i64 f1, .int .i64 f2, .int .i64 0]) (by simp [results, Tryz.results23, go_sem, x0, x1, x2]) rfl ⟨by rw [HV.out]; rfl, ?_, ?_⟩
    · rw [HS.out]
      refine HT2.out.old ?_
      rw [Below.heap_setCell _ ⟨w.heap.size + 1, 2, none⟩ _ r (Ne.symm hne), Below.heap_setCell _ ⟨w.heap.size + 1, 1, none⟩ _ r (Ne.symm hne), Below.heap_setCell _ ⟨w.heap.size + 1, 0, none⟩ _ r (Ne.symm hne)]
    · exact ((hxx.setCell _ _ (.inr (by simp))).setCell _ _ (.inr (by simp))).setCell _ _ (.inr (by simp))
end Go.Proofs.YtkkfmkhbdoeglaaGreatDoor
