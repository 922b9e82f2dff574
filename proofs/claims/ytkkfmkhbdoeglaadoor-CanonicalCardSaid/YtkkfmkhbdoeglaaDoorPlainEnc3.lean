/- The contract of package plain's Encode, whatever the delta. Condition: errors.As's variable. -/
import Derived.Test.YtkkfmkhbdoeglaaDoorPlainEnc2
namespace Go.Proofs.YtkkfmkhbdoeglaaDoor
open Go.RowKit

set_option maxRecDepth 100000 in
set_option maxHeartbeats 1000000 in
theorem plainEncode_zero (v : Nat) (sv : Value) (os : List OpB) (w : World) (hs : OpsAt w sv os) (hg : ShapesVar w) (hge : ErrVar w) (hfit : OpsFit os) (f1 f2 : Nat) (hw : wrongB v os = some (f1, f2)) (h0 : os = []) :
    Calls Tryd.prog 24 #[.agg #[.int .u64 v, sv]] w fun e w' => e = .returned (.tuple #[.string ⟨[].toArray⟩, faultV f1 f2 0]) ∧ Below w.heap.size w w' := by
  have hkd := wrongB_kind hw
  have hn0 : os.length = 0 := by rw [h0]; rfl
  have h8 : os.length ≤ 100 := by omega
  have HN0 := Lib.hid hn0
  clear hn0 h0
  have HS := Lib.hid hs
  obtain ⟨a, cap, rfl, hcap, -⟩ := hs.opened
  clear hs
  have HW := Lib.hid hw
  clear hw
  simp only at hkd
  have hs' : OpsAt ((w.alloc (.cells #[.int .u64 (v : Int), .slice a os.length cap] 46)).alloc (.cells #[.int .i64 0, .int .i64 0, .int .i64 0] 28)) (.slice a os.length cap) os := HS.out.below (((Below.refl _ w).alloc (Nat.le_refl _) _).alloc (by simp) _)
  have HS' := Lib.hid hs'
  clear hs'
  have B0 : Hid (((w.alloc (.cells #[.int .u64 (v : Int), .slice a os.length cap] 46)).alloc (.cells #[.int .i64 0, .int .i64 0, .int .i64 0] 28)).heap[w.heap.size]? = some (.cells #[.int .u64 (v : Int), .slice a os.length cap] 46 (0, 0))) := Lib.hid (heap_old _ _ (heap_new w _))
  have R0 : Hid (((w.alloc (.cells #[.int .u64 (v : Int), .slice a os.length cap] 46)).alloc (.cells #[.int .i64 0, .int .i64 0, .int .i64 0] 28)).heap[w.heap.size + 1]? = some (.cells #[.int .i64 0, .int .i64 0, .int .i64 0] 28 (0, 0))) := Lib.hid (by have := heap_new (w.alloc (.cells #[.int .u64 (v : Int), .slice a os.length cap] 46)) (.cells #[.int .i64 0, .int .i64 0, .int .i64 0] 28); simpa using this)
  go_enter Tryd.func24, Tryd.ntmps24
  go_wp2_with (at_builtin; refine wpList_append_ops rfl _ (.tmp 10) rfl (w.heap.size + 1 + 1) (.slice none 0 0) [] rfl (OwnS.nil _ _ _) os (by exact HS'.out) (by simp; omega) (by simp) ?_; intro v2 w2 hown2 hg2 hb2 _; simp only [List.nil_append] at hown2; obtain ⟨sa, scap, rfl⟩ := hown2.shape; have B2 := Lib.hid (below_at hb2 (by omega) B0.out); have R2 := Lib.hid (below_at hb2 (by omega) R0.out); have c0 : w2.cell? ⟨w.heap.size, 0, none⟩ = some (.int .u64 v) := cell_of_row _ _ 0 _ _ _ B2.out; have hlB := block_lt B2.out)
  have HOWN2 := Lib.hid hown2
  have hob2 := hown2.ownBlock_lt
  have HOB2 := Lib.hid hob2
  clear hob2
  have hs2 : w.heap.size + 1 + 1 ≤ w2.heap.size := by simpa using hg2.size
  have b2 : Below w.heap.size w w2 := (((Below.refl _ w).alloc (Nat.le_refl _) _).alloc (by simp) _).trans (hb2.mono (by omega))
  refine (Encode_bad v (.slice sa os.length scap) os _ (by exact hown2.ops) (hg.new b2) hfit (f1, f2) HW.out).mono ?_
  rintro e w3 ⟨ev, rfl, ⟨gf, rfl, hgf, hfa⟩, hb3⟩
  have HFA := Lib.hid hfa
  clear hfa
  have B3 := Lib.hid (below_at hb3 (block_lt B2.out) B2.out)
  have R3 := Lib.hid (below_at hb3 (block_lt R2.out) R2.out)
  have HOWN3 := Lib.hid (hown2.below hb3)
  have b3 := b2.tn hb3
  clear hown2
  go_wp2_with fail
  refine (parts_fault gf f1 f2 _ (hge.new b3) HFA.out (by omega) (by omega)).mono ?_
  rintro e w4 ⟨rfl, hb4⟩
  have B4 := Lib.hid (below_at hb4 (block_lt B3.out) B3.out)
  have R4 := Lib.hid (below_at hb4 (block_lt R3.out) R3.out)
  have HO4 := Lib.hid (HOWN3.out.below hb4)
  have b4 := b3.tn hb4
  have hs4 := hb4.size
  go_wp2
  generalize hw5 : w4.alloc (.cells #[.int .i64 f1, .int .i64 f2, .int .i64 0] 28) = w5
  have t5 : Below w4.heap.size w4 w5 := by rw [← hw5]; exact (Below.refl _ w4).alloc (Nat.le_refl _) _
  have F5 : Hid (w5.heap[w4.heap.size]? = some (.cells #[.int .i64 f1, .int .i64 f2, .int .i64 0] 28 (0, 0))) := Lib.hid (by rw [← hw5]; exact heap_new w4 _)
  clear hw5
  have b5 := b4.tn t5
  have B5 := Lib.hid (below_at t5 (block_lt B4.out) B4.out)
  have R5 := Lib.hid (below_at t5 (block_lt R4.out) R4.out)
  have hs5 := t5.size
  have hlF := block_lt F5.out
  go_loopw [31] (fun i wr => i = .int .i64 0 ∧ Ext (fun _ => False) w5 wr) (fun _ _ => 0)
  case atStart => exact ⟨rfl, Ext.refl _ _⟩
  case round =>
    obtain ⟨rfl, hx⟩ := hrel
    have hsr := hx.size
    have hbr : Below w.heap.size w wr := b5.trans (hx.below b5.size (fun j hj e => e))
    have RR := Lib.hid (hx.at (fun e => e) R5.out)
    have FR := Lib.hid (hx.at (fun e => e) F5.out)
    have hge : ¬ (0 : Int) < os.length := by have := HN0.out; omega
    have f0 : wr.cell? ⟨w4.heap.size, 0, none⟩ = some (.int .i64 f1) := cell_of_row _ _ 0 _ _ _ FR.out
    have f1' : wr.cell? ⟨w4.heap.size, 1, none⟩ = some (.int .i64 f2) := cell_of_row _ _ 1 _ _ _ FR.out
    have f2' : wr.cell? ⟨w4.heap.size, 2, none⟩ = some (.int .i64 0) := cell_of_row _ _ 2 _ _ _ FR.out
    have r0 : wr.cell? ⟨w.heap.size + 1, 0, none⟩ = some (.int .i64 0) := cell_of_row _ _ 0 _ _ _ RR.out
    have r1 : wr.cell? ⟨w.heap.size + 1, 1, none⟩ = some (.int .i64 0) := cell_of_row _ _ 1 _ _ _ RR.out
    have r2 : wr.cell? ⟨w.heap.size + 1, 2, none⟩ = some (.int .i64 0) := cell_of_row _ _ 2 _ _ _ RR.out
    have z0 := frozen_of_row _ _ 0 _ _ RR.out
    have z1 := frozen_of_row _ _ 1 _ _ RR.out
    have z2 := frozen_of_row _ _ 2 _ _ RR.out
    have hlR := block_lt RR.out
    have hlF' := block_lt FR.out
    have hneF : w4.heap.size ≠ w.heap.size + 1 := by have := hb3.size; omega
    go_wp2
    go_region_held3 (fun w' => Sem.run Tryd.prog (convert 26 9 (.slice none 0 0)) w' = .ok (.string ⟨[].toArray⟩) w' ∧ w'.cell? ⟨w4.heap.size, 0, none⟩ = some (.int .i64 f1) ∧ w'.cell? ⟨w4.heap.size, 1, none⟩ = some (.int .i64 f2) ∧ w'.cell? ⟨w4.heap.size, 2, none⟩ = some (.int .i64 0))
      (first
        | exact ⟨BytesAt.convert (BytesAt.nil _ _ _), f0, f1', f2'⟩
        | exact ⟨BytesAt.convert (BytesAt.nil _ _ _), cell_apart3 hneF f0, cell_apart3 hneF f1', cell_apart3 hneF f2'⟩)
      (fail)
    go_wp2
    have x0 : (((wr.setCell ⟨w.heap.size + 1, 0, none⟩ (.int .i64 f1)).setCell ⟨w.heap.size + 1, 1, none⟩ (.int .i64 f2)).setCell ⟨w.heap.size + 1, 2, none⟩ (.int .i64 0)).cell? ⟨w.heap.size + 1, 0, none⟩ = some (.int .i64 f1) := cell_of_row _ _ 0 _ _ _ (heap_setCell _ _ 2 _ (heap_setCell _ _ 1 _ (heap_setCell _ _ 0 _ RR.out)))
    have x1 : (((wr.setCell ⟨w.heap.size + 1, 0, none⟩ (.int .i64 f1)).setCell ⟨w.heap.size + 1, 1, none⟩ (.int .i64 f2)).setCell ⟨w.heap.size + 1, 2, none⟩ (.int .i64 0)).cell? ⟨w.heap.size + 1, 1, none⟩ = some (.int .i64 f2) := cell_of_row _ _ 1 _ _ _ (heap_setCell _ _ 2 _ (heap_setCell _ _ 1 _ (heap_setCell _ _ 0 _ RR.out)))
    have x2 : (((wr.setCell ⟨w.heap.size + 1, 0, none⟩ (.int .i64 f1)).setCell ⟨w.heap.size + 1, 1, none⟩ (.int .i64 f2)).setCell ⟨w.heap.size + 1, 2, none⟩ (.int .i64 0)).cell? ⟨w.heap.size + 1, 2, none⟩ = some (.int .i64 0) := cell_of_row _ _ 2 _ _ _ (heap_setCell _ _ 2 _ (heap_setCell _ _ 1 _ (heap_setCell _ _ 0 _ RR.out)))
    refine bodyPost_ret (v := .tuple #[.string ⟨[].toArray⟩, .agg #[.int .i64 f1, .int .i64 f2, .int .i64 0]]) (by simp [results, Tryd.results24, go_sem, x0, x1, x2]) rfl ⟨rfl, ?_⟩
    have hB := ((hbr.setCell (p := ⟨w.heap.size + 1, 0, none⟩) (by simp) (.int .i64 f1)).setCell (p := ⟨w.heap.size + 1, 1, none⟩) (by simp) (.int .i64 f2)).setCell (p := ⟨w.heap.size + 1, 2, none⟩) (by simp) (.int .i64 0)
    exact ⟨hB.os, hB.tape, hB.output, hB.size, hB.block⟩
theorem plainEncode_any (v : Nat) (sv : Value) (os : List OpB) (w : World) (hs : OpsAt w sv os) (hg : ShapesVar w) (hge : ErrVar w) (hfit : OpsFit os) (h8 : os.length ≤ 2932031007402) :
    Calls Tryd.prog 24 #[.agg #[.int .u64 v, sv]] w fun e w' => e = .returned (match wrongB v os with | none => .tuple #[.string ⟨(encB v os).toArray⟩, faultV 0 0 0] | some f => .tuple #[.string ⟨[].toArray⟩, faultV f.1 f.2 0]) ∧ Below w.heap.size w w' := by
  cases hw : wrongB v os with
  | none => exact plainEncode_good v sv os w hs hg hfit hw
  | some f =>
    by_cases h0 : os = []
    · exact plainEncode_zero v sv os w hs hg hge hfit f.1 f.2 hw h0
    · exact plainEncode_bad v sv os w hs hg hge hfit f.1 f.2 hw (by have := List.length_pos_iff.2 h0; omega) h8
end Go.Proofs.YtkkfmkhbdoeglaaDoor
