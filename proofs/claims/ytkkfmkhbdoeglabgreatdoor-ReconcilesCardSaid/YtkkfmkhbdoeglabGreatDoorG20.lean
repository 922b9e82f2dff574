/- A part of what is proved here: lemmas and contracts of single functions. No condition but those that each names. -/
import Derived.Deep.DeepCutAuto
import Derived.Test.YtkkfmkhbdoeglabGreatDoorG02
import Derived.Test.YtkkfmkhbdoeglabGreatDoorG19
namespace Go.Proofs.YtkkfmkhbdoeglabGreatDoor
open Go.RowKit Go.Extern.Stop Go.Stop Go.Extern
theorem parts_nil (w : World) : Calls Tryz.prog 62 #[.nilIface] w fun e w' => e = .returned (.agg #[.int .i64 0, .int .i64 0, .int .i64 0]) ∧ Below w.heap.size w w' := by
  go_enter Tryz.func62, Tryz.ntmps62
  go_wp2
  exact bodyPost_ret (v := .agg #[.int .i64 0, .int .i64 0, .int .i64 0]) (by simp [results, Tryz.results62, go_sem]) rfl ⟨rfl, (Below.refl _ w).alloc (Nat.le_refl _) _⟩
theorem hitF_ext (e t : Addr) (w : World) : Ext (fun k => k = t.block) w (hitWorldF e t w) :=
  Ext.setCell (((((Ext.refl _ w).alloc _).alloc _).alloc _).alloc _) t _ (.inl rfl)
theorem hitF_at (e : Addr) (t : Nat) (w : World) {T : TypeId} {old : Value} (h : w.heap[t]? = some (.cells #[old] T (0, 0))) : (hitWorldF e ⟨t, 0, none⟩ w).heap[t]? = some (.cells #[.pointer (some e)] T (0, 0)) :=
  heap_setCell _ t 0 _ (heap_old _ _ (heap_old _ _ (heap_old _ _ (heap_old _ _ h))))
set_option maxRecDepth 100000 in
set_option maxHeartbeats 1000000 in
theorem parts_fault (b : Nat) (k n : Int) (w : World) (hg : ErrVar w) (hb : w.heap[b]? = some (.cells #[.int .i64 k, .int .i64 n, .nilIface] 186 (0, 0))) (h1 : 1 ≤ k) (h2 : k ≤ 14) :
    Calls Tryz.prog 62 #[.iface 171 (.pointer (some ⟨b, 0, none⟩))] w fun e w' => e = .returned (.agg #[.int .i64 k, .int .i64 n, .int .i64 0]) ∧ Below w.heap.size w w' := by
  have hlt := block_lt hb
  have hnb : ∀ o, (w.alloc (.cells #[.int .i64 0, .int .i64 0, .int .i64 0] 34)).heap[w.heap.size + 1]? = o → True := fun _ _ => trivial
  clear hnb
  go_enter Tryz.func62, Tryz.ntmps62
  go_wp2_with fail
  generalize hw0 : (w.alloc (.cells #[.int .i64 0, .int .i64 0, .int .i64 0] 34)).alloc (.cells #[.pointer none] 171) = w0
  have s0 : w0.heap.size = w.heap.size + 1 + 1 := by rw [← hw0]; simp
  have e0 : Below w.heap.size w w0 := by rw [← hw0]; exact ((Below.refl _ w).alloc (Nat.le_refl _) _).alloc (by simp) _
  have r0 : w0.heap[w.heap.size]? = some (.cells #[.int .i64 0, .int .i64 0, .int .i64 0] 34 (0, 0)) := by rw [← hw0]; exact heap_old _ _ (heap_new w _)
  have t0 : w0.heap[w.heap.size + 1]? = some (.cells #[.pointer none] 171 (0, 0)) := by rw [← hw0]; have := heap_new (w.alloc (.cells #[.int .i64 0, .int .i64 0, .int .i64 0] 34)) (.cells #[.pointer none] 171); simpa using this
  clear hw0
  refine (as_hitF ⟨b, 0, none⟩ ⟨w.heap.size + 1, 0, none⟩ (.pointer none) w0 (hg.new e0).2 (cell_of_row _ _ 0 _ _ _ t0) (by rw [frozen_of_row _ _ 0 _ _ t0]) ).mono ?_
  rintro e w1 ⟨rfl, hw1⟩
  have x1 := hitF_ext ⟨b, 0, none⟩ ⟨w.heap.size + 1, 0, none⟩ w0
  have t1 := hitF_at ⟨b, 0, none⟩ (w.heap.size + 1) w0 t0
  rw [← hw1] at x1 t1
  clear hw1
  have x1' : Below w.heap.size w w1 := e0.trans (x1.below (by omega) (fun k hk e => by simp only at e; omega))
  have b1 := below_at x1' hlt hb
  have c1 : w1.cell? ⟨w.heap.size + 1, 0, none⟩ = some (.pointer (some ⟨b, 0, none⟩)) := cell_of_row _ _ 0 _ _ _ t1
  have k1 : w1.cell? ⟨b, 0, none⟩ = some (.int .i64 k) := cell_of_row _ _ 0 _ _ _ b1
  have n1 : w1.cell? ⟨b, 1, none⟩ = some (.int .i64 n) := cell_of_row _ _ 1 _ _ _ b1
  have hk0 : (k == 0) = false := by rw [beq_eq_false_iff_ne]; omega
  have S1 := Lib.hid s0
  have hz1 : w.heap.size + 2 ≤ w1.heap.size := by have := x1.size; omega
  have HB := Lib.hid hb
  have HB1 := Lib.hid b1
  have HT1 := Lib.hid t1
  have R1 := Lib.hid (x1.at (fun e => by simp only at e; omega) r0)
  clear s0 hb b1 t1 r0 t0
  go_wp2
  go_loopw [4] (fun c wr => ∃ m : Nat, m ≤ 15 ∧ c = .int .i64 m ∧ Below w1.heap.size w1 wr) (fun c _ => 15 - (intOf c).toNat)
  case atStart => exact ⟨0, by omega, rfl, Below.refl _ _⟩
  case round =>
    obtain ⟨m, hm, rfl, hbr⟩ := hrel
    have hs1 := hbr.size
    have br := Lib.hid (below_at hbr (block_lt HB1.out) HB1.out)
    have tr := Lib.hid (below_at hbr (block_lt HT1.out) HT1.out)
    have cr : wr.cell? ⟨w.heap.size + 1, 0, none⟩ = some (.pointer (some ⟨b, 0, none⟩)) := cell_of_row _ _ 0 _ _ _ tr.out
    have kr : wr.cell? ⟨b, 0, none⟩ = some (.int .i64 k) := cell_of_row _ _ 0 _ _ _ br.out
    have nr : wr.cell? ⟨b, 1, none⟩ = some (.int .i64 n) := cell_of_row _ _ 1 _ _ _ br.out
    clear c1 k1 n1
    by_cases hlt15 : m < 15
    · by_cases hkm : k = (m : Int)
      · have hq1 : (k == (m : Int)) = true := beq_iff_eq.2 hkm
        have hq2 : ((m : Int) == k) = true := beq_iff_eq.2 hkm.symm
        clear hkm
        go_wp2
        go_region_held3 (fun w' => w'.cell? ⟨w.heap.size + 1, 0, none⟩ = some (.pointer (some ⟨b, 0, none⟩)) ∧ w'.cell? ⟨b, 0, none⟩ = some (.int .i64 k))
          (first | go_keep | exact ⟨(hbx.cell (p := ⟨w.heap.size + 1, 0, none⟩) (block_lt tr.out)).trans cr, (hbx.cell (p := ⟨b, 0, none⟩) (block_lt br.out)).trans kr⟩)
          ((go_at_call 105; refine (Is_fault b k n m _ (by exact br.out)).mono ?_; rintro e w2 ⟨rfl, hbx⟩))
        go_wp2
        go_roundw
        case rel => exact ⟨m + 1, by omega, by go_num, hbr.trans (Below.mono ⟨hbx.os, hbx.tape, hbx.output, hbx.size, hbx.block⟩ hs1)⟩
        case measure => simp [intOf]; omega
      · have hq1 : (k == (m : Int)) = false := beq_eq_false_iff_ne.2 hkm
        have hq2 : ((m : Int) == k) = false := beq_eq_false_iff_ne.2 (fun e => hkm e.symm)
        clear hkm
        go_wp2
        go_region_held3 (fun w' => w'.cell? ⟨w.heap.size + 1, 0, none⟩ = some (.pointer (some ⟨b, 0, none⟩)) ∧ w'.cell? ⟨b, 0, none⟩ = some (.int .i64 k))
          (first | go_keep | exact ⟨(hbx.cell (p := ⟨w.heap.size + 1, 0, none⟩) (block_lt tr.out)).trans cr, (hbx.cell (p := ⟨b, 0, none⟩) (block_lt br.out)).trans kr⟩)
          ((go_at_call 105; refine (Is_fault b k n m _ (by exact br.out)).mono ?_; rintro e w2 ⟨rfl, hbx⟩))
        go_wp2
        go_roundw
        case rel => exact ⟨m + 1, by omega, by go_num, hbr.trans (Below.mono ⟨hbx.os, hbx.tape, hbx.output, hbx.size, hbx.block⟩ hs1)⟩
        case measure => simp [intOf]; omega
    · obtain rfl : m = 15 := by omega
      go_wp2
      go_region_held3 (fun w' => w'.cell? ⟨w.heap.size + 1, 0, none⟩ = some (.pointer (some ⟨b, 0, none⟩)) ∧ w'.cell? ⟨b, 0, none⟩ = some (.int .i64 k) ∧ w'.cell? ⟨b, 1, none⟩ = some (.int .i64 n))
        (first | go_keep) (fail)
      go_wp2_with fail
      generalize hw3 : ((wr.alloc (.cells #[.int .i64 k, .int .i64 n, .int .i64 0] 34)).alloc (.cells #[.pointer none] 188)).drew = w3
      have e3 : Below wr.heap.size wr w3 := by rw [← hw3]; exact (((Below.refl _ wr).alloc (Nat.le_refl _) _).alloc (by simp) _).drew
      have s3 : w3.heap.size = wr.heap.size + 1 + 1 := by rw [← hw3]; simp
      have f3 : w3.heap[wr.heap.size]? = some (.cells #[.int .i64 k, .int .i64 n, .int .i64 0] 34 (0, 0)) := by rw [← hw3]; exact heap_old _ _ (heap_new wr _)
      clear hw3
      have hall : Below w.heap.size w w3 := (x1'.trans (hbr.mono (by omega))).trans (e3.mono (by omega))
      have rall : w3.heap[w.heap.size]? = some (.cells #[.int .i64 0, .int .i64 0, .int .i64 0] 34 (0, 0)) := below_at e3 (by omega) (below_at hbr (by omega) R1.out)
      refine (As_miss b k n ⟨wr.heap.size + 1, 0, none⟩ w3 (below_at hall hlt HB.out) (hg.new hall).2).mono ?_
      rintro e w4 ⟨rfl, hb4⟩
      have hall4 := hall.trans (hb4.mono (by have := hall.size; omega))
      have f40 : w4.cell? ⟨wr.heap.size, 0, none⟩ = some (.int .i64 k) := cell_of_row _ _ 0 _ _ _ (below_at hb4 (block_lt f3) f3)
      have f41 : w4.cell? ⟨wr.heap.size, 1, none⟩ = some (.int .i64 n) := cell_of_row _ _ 1 _ _ _ (below_at hb4 (block_lt f3) f3)
      have f42 : w4.cell? ⟨wr.heap.size, 2, none⟩ = some (.int .i64 0) := cell_of_row _ _ 2 _ _ _ (below_at hb4 (block_lt f3) f3)
      have r4 := below_at hb4 (block_lt rall) rall
      have r40 : w4.cell? ⟨w.heap.size, 0, none⟩ = some (.int .i64 0) := cell_of_row _ _ 0 _ _ _ r4
      have r41 : w4.cell? ⟨w.heap.size, 1, none⟩ = some (.int .i64 0) := cell_of_row _ _ 1 _ _ _ r4
      have r42 : w4.cell? ⟨w.heap.size, 2, none⟩ = some (.int .i64 0) := cell_of_row _ _ 2 _ _ _ r4
      have z0 := frozen_of_row _ _ 0 _ _ r4
      have z1 := frozen_of_row _ _ 1 _ _ r4
      have z2 := frozen_of_row _ _ 2 _ _ r4
      clear f3 rall r4 s3
      go_wp2
      refine bodyPost_ret (v := .agg #[.int .i64 k, .int .i64 n, .int .i64 0]) (by simp [results, Tryz.results62, go_sem, r40, r41, r42]) rfl ⟨rfl, ?_⟩
      exact ((hall4.setCell (p := ⟨w.heap.size, 0, none⟩) (Nat.le_refl _) _).setCell (p := ⟨w.heap.size, 1, none⟩) (Nat.le_refl _) _).setCell (p := ⟨w.heap.size, 2, none⟩) (Nat.le_refl _) _
end Go.Proofs.YtkkfmkhbdoeglabGreatDoor
