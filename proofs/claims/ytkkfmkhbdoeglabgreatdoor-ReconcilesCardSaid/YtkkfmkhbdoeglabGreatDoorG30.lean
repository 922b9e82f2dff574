/- A part of what is proved here: lemmas and contracts of single functions. No condition but those that each names. -/
import Derived.Test.YtkkfmkhbdoeglabGreatDoorG11
namespace Go.Proofs.YtkkfmkhbdoeglabGreatDoor
open Go.RowKit
theorem OpsAt.take {w : World} {a : Option Addr} {n cap : Nat} {os : List OpB} (h : OpsAt w (.slice a n cap) os) (k : Nat) (hk : k ≤ os.length) : OpsAt w (.slice a k cap) (os.take k) := by
  obtain ⟨hl, a', cap', he, hc, hx⟩ := h
  cases he
  have htl : (os.take k).length = k := by rw [List.length_take]; omega
  have hot : opCells os = opCells (os.take k) ++ opCells (os.drop k) := by rw [← opCells_append, List.take_append_drop]
  refine ⟨opCells_length _, a, cap, by rw [htl], by omega, fun i hi => ?_⟩
  have hi2 : i < (opCells os).length := by rw [hot, List.length_append]; omega
  obtain ⟨b, off, rfl, hcell⟩ := hx i hi2
  refine ⟨b, off, rfl, ?_⟩
  rw [hcell]
  congr 1
  have : (opCells os)[i]? = (opCells (os.take k))[i]? := by rw [hot, List.getElem?_append_left hi]
  rw [List.getElem?_eq_getElem hi2, List.getElem?_eq_getElem hi] at this
  exact Option.some.inj this
/-- a fault of the reference's, as a value -/
def refFaultV (f : Option (Nat × Nat)) : Value := match f with
  | none => .agg #[.int .i64 0, .int .i64 0]
  | some (k, n) => .agg #[.int .i64 k, .int .i64 n]
set_option maxRecDepth 100000 in
set_option maxHeartbeats 1000000 in
theorem refWrong_few (v : Nat) (sv : Value) (os : List OpB) (w : World) (hs : OpsAt w sv os) (hv64 : v < 18446744073709551616) (hbad : isVersionB v = false ∨ os.length < 1 ∨ 8 < os.length) :
    Calls Tryz.prog 53 #[.agg #[.int .u64 v, sv]] w fun e w' => e = .returned (refFaultV (wrongB v os)) ∧ Below w.heap.size w w' := by
  obtain ⟨a, cap, rfl, hcap, -⟩ := hs.opened
  clear hs
  cases hv : isVersionB v with
  | false =>
    have HW : wrongB v os = some (4, 0) := by unfold wrongB; rw [if_pos hv]
    rw [HW]
    clear HW hbad
    go_enter Tryz.func53, Tryz.ntmps53
    go_wp2_with (go_at_call 98; refine (refIsVersion_any v _ hv64).mono ?_; rintro e w' ⟨rfl, rfl⟩; rw [hv])
    exact bodyPost_ret (v := .agg #[.int .i64 4, .int .i64 0]) (by simp [results, Tryz.results53, go_sem]) rfl ⟨rfl, ((Below.refl _ w).alloc (Nat.le_refl _) _).alloc (by simp) _⟩
  | true =>
    have hn : os.length < 1 ∨ 8 < os.length := hbad.resolve_left (by rw [hv]; decide)
    have HW : wrongB v os = some (5, 0) := by unfold wrongB; rw [if_neg (by rw [hv]; decide), if_pos hn]
    rw [HW]
    clear HW hbad
    generalize os.length = n at *
    rcases hn with hn | hn
    · have hn' : (n : Int) < 1 := by omega
      go_enter Tryz.func53, Tryz.ntmps53
      go_wp2_with (go_at_call 98; refine (refIsVersion_any v _ hv64).mono ?_; rintro e w' ⟨rfl, rfl⟩; rw [hv])
      exact bodyPost_ret (v := .agg #[.int .i64 5, .int .i64 0]) (by simp [results, Tryz.results53, go_sem]) rfl ⟨rfl, ((Below.refl _ w).alloc (Nat.le_refl _) _).alloc (by simp) _⟩
    · have hn' : (8 : Int) < n := by omega
      have hn1 : ¬ (n : Int) < 1 := by omega
      go_enter Tryz.func53, Tryz.ntmps53
      go_wp2_with (go_at_call 98; refine (refIsVersion_any v _ hv64).mono ?_; rintro e w' ⟨rfl, rfl⟩; rw [hv])
      exact bodyPost_ret (v := .agg #[.int .i64 5, .int .i64 0]) (by simp [results, Tryz.results53, go_sem]) rfl ⟨rfl, ((Below.refl _ w).alloc (Nat.le_refl _) _).alloc (by simp) _⟩
set_option maxRecDepth 100000 in
set_option maxHeartbeats 2000000 in
theorem refWrong_loop (v : Nat) (sv : Value) (os : List OpB) (w : World) (hs : OpsAt w sv os) (hfit : OpsFit os) (hv : isVersionB v = true) (h1 : 1 ≤ os.length) (h8 : os.length ≤ 8) :
    Calls Tryz.prog 53 #[.agg #[.int .u64 v, sv]] w fun e w' => e = .returned (refFaultV (wrongFrom 0 [] os)) ∧ Below w.heap.size w w' := by
  have HS := Lib.hid hs
  obtain ⟨a, cap, rfl, hcap, -⟩ := hs.opened
  clear hs
  have hv64 := isVersionB_lt hv
  have HV := Lib.hid hv
  clear hv
  have hn1 : ¬ (os.length : Int) < 1 := by omega
  have hn8 : ¬ 8 < (os.length : Int) := by omega
  go_enter Tryz.func53, Tryz.ntmps53
  go_wp2_with (go_at_call 98; refine (refIsVersion_any v _ hv64).mono ?_; rintro e w' ⟨rfl, rfl⟩; rw [HV.out])
  generalize hw1 : (w.alloc (.cells #[.int .u64 (v : Int), .slice a os.length cap] 51)).alloc (.cells #[.int .i64 0, .int .i64 0] 31) = w1
  have s1 : w1.heap.size = w.heap.size + 1 + 1 := by rw [← hw1]; simp
  have b1 : Below w.heap.size w w1 := by rw [← hw1]; exact ((Below.refl _ w).alloc (Nat.le_refl _) _).alloc (by simp) _
  have B1 : Hid (w1.heap[w.heap.size]? = some (.cells #[.int .u64 (v : Int), .slice a os.length cap] 51 (0, 0))) := Lib.hid (by rw [← hw1]; exact heap_old _ _ (heap_new w _))
  have R1 : Hid (w1.heap[w.heap.size + 1]? = some (.cells #[.int .i64 0, .int .i64 0] 31 (0, 0))) := Lib.hid (by rw [← hw1]; have := heap_new (w.alloc (.cells #[.int .u64 (v : Int), .slice a os.length cap] 51)) (.cells #[.int .i64 0, .int .i64 0] 31); simpa using this)
  clear hw1
  have S1 := Lib.hid s1
  clear s1
  go_loopw [4] (fun i wr => ∃ k : Nat, k ≤ os.length ∧ i = .int .i64 k ∧ wrongFrom 0 [] os = wrongFrom k (keysOf (os.take k)) (os.drop k) ∧ Below w1.heap.size w1 wr) (fun i _ => os.length - (intOf i).toNat)
  case atStart => exact ⟨0, by omega, rfl, rfl, Below.refl _ _⟩
  case round =>
    obtain ⟨k, hk', rfl, hwr, hbr⟩ := hrel
    have hS1 := S1.out
    have hb := b1.trans (hbr.mono (by omega))
    have hbs := hbr.size
    have BR := Lib.hid (below_at hbr (by omega) B1.out)
    have RR := Lib.hid (below_at hbr (by omega) R1.out)
    have q1 : wr.cell? ⟨w.heap.size, 1, none⟩ = some (.slice a os.length cap) := cell_of_row _ _ 1 _ _ _ BR.out
    have hlq := block_lt BR.out
    have hlr := block_lt RR.out
    by_cases hlt : k < os.length
    · have HOP := Lib.hid ((HS.out.below hb).take k (by omega))
      obtain ⟨a', cap', he, hc', hx⟩ := (HS.out.below hb).opened
      cases he
      obtain ⟨b, off, rfl, c0, c1, c2, c3⟩ := hx k hlt
      clear hx hc'
      have hof := hfit os[k] (List.getElem_mem hlt)
      rw [wrongFrom_step os k hlt] at hwr
      have HWR := Lib.hid hwr
      clear hwr
      have hlt' : (k : Int) < os.length := by omega
      have hcl := cell_lt c0
      have hkc : k ≤ cap := by omega
      clear hS1
      have hro := fun W hW => refOp_any os[k] (.slice (some ⟨b, off, none⟩) k cap) (os.take k) W hW (by rw [List.length_take]; omega) hof.1 hof.2
      obtain ⟨kd, T, KB, VB, ho⟩ : ∃ kd T KB VB, os[k] = ⟨kd, T, KB, VB⟩ := ⟨_, _, _, _, rfl⟩
      rw [ho] at hro HWR c0 c1 c2 c3
      have HRO := Lib.hid hro
      clear hro hof
      go_wp2
      go_region_held3 (fun w' => w'.cell? ⟨w.heap.size, 1, none⟩ = some (.slice (some ⟨b, off, none⟩) os.length cap) ∧ w'.cell? ⟨b, off + k * 4, none⟩ = some (.int .i64 kd) ∧ w'.cell? ⟨b, off + k * 4 + 1, none⟩ = some (.int .i64 T) ∧ w'.cell? ⟨b, off + k * 4 + 2, none⟩ = some (.string ⟨KB.toArray⟩) ∧ w'.cell? ⟨b, off + k * 4 + 3, none⟩ = some (.string ⟨VB.toArray⟩))
        (first | go_keep | exact ⟨d0, d1, d2, d3, d4⟩)
        ((go_at_call 99; refine (HRO.out _ (by exact HOP.out)).mono ?_; rintro e w2 ⟨rfl, hb2⟩;
          have d0 : w2.cell? ⟨w.heap.size, 1, none⟩ = some (.slice (some ⟨b, off, none⟩) os.length cap) := (hb2.cell (p := ⟨w.heap.size, 1, none⟩) (by exact hlq)).trans q1;
          have d1 : w2.cell? ⟨b, off + k * 4, none⟩ = some (.int .i64 kd) := (hb2.cell (p := ⟨b, off + k * 4, none⟩) (by exact hcl)).trans c0;
          have d2 : w2.cell? ⟨b, off + k * 4 + 1, none⟩ = some (.int .i64 T) := (hb2.cell (p := ⟨b, off + k * 4 + 1, none⟩) (by exact hcl)).trans c1;
          have d3 : w2.cell? ⟨b, off + k * 4 + 2, none⟩ = some (.string ⟨KB.toArray⟩) := (hb2.cell (p := ⟨b, off + k * 4 + 2, none⟩) (by exact hcl)).trans c2;
          have d4 : w2.cell? ⟨b, off + k * 4 + 3, none⟩ = some (.string ⟨VB.toArray⟩) := (hb2.cell (p := ⟨b, off + k * 4 + 3, none⟩) (by exact hcl)).trans c3))
      have R2 := Lib.hid (below_at (w := wr.drew) hb2 hlr RR.out)
      have hb2' : Below wr.heap.size wr w2 := ⟨hb2.os, hb2.tape, hb2.output, hb2.size, hb2.block⟩
      clear d0 d1 d2 d3 d4 q1
      have hb3 : Below w1.heap.size w1 w2 := hbr.trans (hb2'.mono hbs)
      have hs2 := hb3.size
      by_cases h0 : opWrong ⟨kd, T, KB, VB⟩ (keysOf (os.take k)) = 0
      · have H0 : Hid (wrongFrom 0 [] os = wrongFrom (k + 1) (keysOf (os.take (k + 1))) (os.drop (k + 1))) := Lib.hid (by rw [HWR.out, if_pos h0])
        rw [h0]
        clear h0
        go_wp2
        go_roundw
        case rel => exact ⟨k + 1, by omega, by go_num, H0.out, hb3⟩
        case measure => simp [intOf]; omega
      · have H0 : Hid (wrongFrom 0 [] os = some (opWrong ⟨kd, T, KB, VB⟩ (keysOf (os.take k)), k)) := Lib.hid (by rw [HWR.out, if_neg h0])
        have hne : ((opWrong ⟨kd, T, KB, VB⟩ (keysOf (os.take k)) : Int) != 0) = true := by rw [bne_iff_ne]; omega
        clear h0
        generalize opWrong ⟨kd, T, KB, VB⟩ (keysOf (os.take k)) = x at *
        have r0 : w2.cell? ⟨w.heap.size + 1, 0, none⟩ = some (.int .i64 0) := cell_of_row _ _ 0 _ _ _ R2.out
        have r1 : w2.cell? ⟨w.heap.size + 1, 1, none⟩ = some (.int .i64 0) := cell_of_row _ _ 1 _ _ _ R2.out
        have e0 := frozen_of_row _ _ 0 _ _ R2.out
        have e1 := frozen_of_row _ _ 1 _ _ R2.out
        have hl2 := block_lt R2.out
        go_wp2
        refine bodyPost_ret (v := .agg #[.int .i64 x, .int .i64 k]) (by simp [results, Tryz.results53, go_sem, r0, r1]) rfl ⟨by rw [H0.out]; rfl, ?_⟩
        exact ((b1.trans (hb3.mono (by have := S1.out; omega))).setCell (p := ⟨w.heap.size + 1, 0, none⟩) (by simp) _).setCell (p := ⟨w.heap.size + 1, 1, none⟩) (by simp) _
    · obtain rfl : k = os.length := by omega
      have H0 : Hid (wrongFrom 0 [] os = none) := Lib.hid (by rw [hwr, List.drop_length]; rfl)
      have hge : ¬ (os.length : Int) < os.length := by omega
      have r0 : wr.cell? ⟨w.heap.size + 1, 0, none⟩ = some (.int .i64 0) := cell_of_row _ _ 0 _ _ _ RR.out
      have r1 : wr.cell? ⟨w.heap.size + 1, 1, none⟩ = some (.int .i64 0) := cell_of_row _ _ 1 _ _ _ RR.out
      have e0 := frozen_of_row _ _ 0 _ _ RR.out
      have e1 := frozen_of_row _ _ 1 _ _ RR.out
      clear hwr hS1
      go_wp2
      refine bodyPost_ret (v := .agg #[.int .i64 0, .int .i64 0]) (by simp [results, Tryz.results53, go_sem, r0, r1]) rfl ⟨by rw [H0.out]; rfl, ?_⟩
      exact (hb.setCell (p := ⟨w.heap.size + 1, 0, none⟩) (by simp) _).setCell (p := ⟨w.heap.size + 1, 1, none⟩) (by simp) _
theorem refWrong_any (v : Nat) (sv : Value) (os : List OpB) (w : World) (hs : OpsAt w sv os) (hfit : OpsFit os) (hv64 : v < 18446744073709551616) :
    Calls Tryz.prog 53 #[.agg #[.int .u64 v, sv]] w fun e w' => e = .returned (refFaultV (wrongB v os)) ∧ Below w.heap.size w w' := by
  by_cases hbad : isVersionB v = false ∨ os.length < 1 ∨ 8 < os.length
  · exact refWrong_few v sv os w hs hv64 hbad
  · have hv : isVersionB v = true := by cases h : isVersionB v with | true => rfl | false => exact absurd (.inl h) hbad
    have h1 : 1 ≤ os.length := by omega
    have h8 : os.length ≤ 8 := by omega
    have e : wrongB v os = wrongFrom 0 [] os := by unfold wrongB; rw [if_neg (by rw [hv]; decide), if_neg (by omega)]
    rw [e]
    exact refWrong_loop v sv os w hs hfit hv h1 h8
end Go.Proofs.YtkkfmkhbdoeglabGreatDoor
