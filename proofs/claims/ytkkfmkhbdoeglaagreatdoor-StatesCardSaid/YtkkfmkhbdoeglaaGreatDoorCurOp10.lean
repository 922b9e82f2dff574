/- The walk of package overlay's cursor.op: kind 1, table 0. No condition. -/
import Derived.Test.YtkkfmkhbdoeglaaGreatDoorCurOpLaws
namespace Go.Proofs.YtkkfmkhbdoeglaaGreatDoor
open Go.RowKit

set_option maxRecDepth 100000 in
set_option maxHeartbeats 2000000 in
theorem op_1_0 (base c r : Nat) (cu : Cu) (x y : UInt8) (ks : List K) (w : World) (h : CurAt w base c cu) (hm : SeenAt w r ks) (hg : ShapesVar w) (hb2 : 2 ≤ base) (hb : base ≤ w.heap.size) (hcr : c < r)
    (hh : (cu.take 2).2 = [x, y]) (hx : (x.toNat : Int) = 1) (hy : (y.toNat : Int) = 0) (hf : (cu.take 2).1.f = none) :
    Calls Tryz.prog 144 #[.pointer (some ⟨c, 0, none⟩), .map (some r)] w fun e w' => e = .returned (opV ((cu.take 2).1.opTail 1 0 ks 6 4).2) ∧ CurAt w' base c ((cu.take 2).1.opTail 1 0 ks 6 4).1 ∧ (((cu.take 2).1.opTail 1 0 ks 6 4).1.f = none → SeenAt w' r (ks ++ [(0, ((cu.take 2).1.opTail 1 0 ks 6 4).2.key)])) ∧ Ext (fun i => i = c ∨ i = r) w w' := by
  have H0 := Lib.hid (heap_new w (.cells #[.int .i64 0, .int .i64 0, .string ⟨#[]⟩, .string ⟨#[]⟩] 96))
  have hcl := h.lt
  have hrl := hm.lt
  have hcb : base ≤ c := h.2.2.2.1
  have hsz : w.heap.size < (w.alloc (.cells #[.int .i64 0, .int .i64 0, .string ⟨#[]⟩, .string ⟨#[]⟩] 96)).heap.size := by simp
  have hm0 : SeenAt (w.alloc (.cells #[.int .i64 0, .int .i64 0, .string ⟨#[]⟩, .string ⟨#[]⟩] 96)) r ks := MapAt.old hm (heap_alloc_old _ _ hrl)
  have hg0 := hg.alloc (.cells #[.int .i64 0, .int .i64 0, .string ⟨#[]⟩, .string ⟨#[]⟩] 96)
  obtain ⟨T2, hT2⟩ : ∃ T2 : Int, T2 = 0 := ⟨_, rfl⟩
  have HT2 := Lib.hid hT2
  clear hT2
  go_enter Tryz.func144, Tryz.ntmps144
  go_wp2_with fail
  refine (take_any base c cu 2 _ (h.old ((Below.refl _ w).alloc (Nat.le_refl _) _)) (by simp; omega) (by decide) (by decide)).mono ?_
  rintro e w1 ⟨v, rfl, hv, -, hcu, hg1⟩
  rw [hh] at hv
  obtain ⟨a, cap, rfl, hcap, hxx⟩ := hv.opened
  obtain ⟨b, off, rfl, hc0⟩ := hxx 0 (by simp)
  obtain ⟨b', off', he, hc1⟩ := hxx 1 (by simp)
  cases he
  simp only [Nat.add_zero, List.getElem_cons_zero, List.getElem_cons_succ] at hc0 hc1
  have hlt1 := cell_lt hc0
  clear hxx hv
  simp only [List.length_cons, List.length_nil] at hcap
  have hs1 := hg1.size
  have A1 := Lib.hid (carry hg1 H0.out (by omega))
  have hcl1 := hcu.lt
  have hm1 : SeenAt w1 r ks := MapAt.old hm0 (hg1.block r (by simp; omega) (fun e => by cases e; omega))
  have hg1' := hg0.grown hg1 (by omega)
  have hsv := hg1'.two
  go_wp2
  go_region
  go_wp2_with fail
  refine (must_any base c _ _ 6 _ (hcu.old (((Below.refl _ w1).alloc (Nat.le_refl _) _).drew)) (by simp at hs1 ⊢; omega)).mono ?_
  rintro e w2 ⟨rfl, hcu2, hg2⟩
  have B2 := Lib.hid (carry hg2 (heap_new w1 _) (by omega))
  have A2 := Lib.hid (carry hg2 (heap_old w1 _ A1.out) (by omega))
  have hm2 : SeenAt w2 r ks := MapAt.old hm1 ((hg2.block r (by simp at hs1 ⊢; omega) (fun e => by cases e; omega)).trans (heap_alloc_old w1 _ (by simp at hs1; omega)))
  have hv2 := (hg1'.new (((Below.refl _ w1).alloc (Nat.le_refl _) _).drew)).grown hg2 (by omega)
  have q0 : w2.cell? ⟨w1.heap.size, 0, none⟩ = some _ := cell_of_row _ _ 0 _ _ _ B2.out
  have q1 : w2.cell? ⟨w1.heap.size, 1, none⟩ = some _ := cell_of_row _ _ 1 _ _ _ B2.out
  have hlt2 := block_lt B2.out
  have hs2 := hg2.size
  simp only [Cu.must_true] at hcu2
  go_wp2_with fail
  refine (must_any base c _ _ 6 _ hcu2 (by simp at hs1 hs2 ⊢; omega)).mono ?_
  rintro e w3 ⟨rfl, hcu3, hg3⟩
  have hs3 := hg3.size
  have B3 := Lib.hid (carry hg3 B2.out (by omega))
  have A3 := Lib.hid (carry hg3 A2.out (by omega))
  have hm3 : SeenAt w3 r ks := MapAt.old hm2 (hg3.block r hm2.lt (fun e => by cases e; omega))
  have hv3 := hv2.grown hg3 (by omega)
  simp only [Cu.must_true] at hcu3
  clear q0 q1
  have q1 : w3.cell? ⟨w1.heap.size, 1, none⟩ = some _ := cell_of_row _ _ 1 _ _ _ B3.out
  have k3 := hcu3.noFault hf
  have hlt3 := hcu3.lt
  have hlt4 := block_lt B3.out
  have z0 := hv3.c0
  have z2 := hv3.c2
  have z4 := hv3.c4
  have z := hv3.two
  go_wp2_with fail
  refine (take_any base c _ 6 _ hcu3 (by simp at hs1 hs2 hs3 ⊢; omega) (by decide) (by decide)).mono ?_
  rintro e w4 ⟨v4, rfl, hv4, -, hcu4, hg4⟩
  obtain ⟨KB, hKB, hv4⟩ := hv4.name
  have HKB := Lib.hid hKB
  have hkl : KB.length ≤ 6 := by rw [hKB, Cu.take_length]; decide
  clear hKB z0 z2 z4 z q1 k3
  have hs4 := hg4.size
  have B4 := Lib.hid (carry hg4 B3.out (by omega))
  have A4 := Lib.hid (carry hg4 A3.out (by omega))
  have hm4 : SeenAt w4 r ks := MapAt.old hm3 (hg4.block r hm3.lt (fun e => by cases e; omega))
  have hv4' := hv3.grown hg4 (by omega)
  have q0 : w4.cell? ⟨w1.heap.size, 0, none⟩ = some _ := cell_of_row _ _ 0 _ _ _ B4.out
  have q1 : w4.cell? ⟨w1.heap.size, 1, none⟩ = some _ := cell_of_row _ _ 1 _ _ _ B4.out
  have q2 : w4.cell? ⟨w1.heap.size, 2, none⟩ = some _ := cell_of_row _ _ 2 _ _ _ B4.out
  have f2 := frozen_of_row _ _ 2 _ _ B4.out
  have hlt5 := block_lt B4.out
  go_wp2_with (refine wpList_string_of rfl (.tmp 48) rfl KB hv4 ?_)
  have hs1' : w.heap.size + 1 ≤ w1.heap.size := by simpa using hs1
  have hs2' : w1.heap.size + 1 ≤ w2.heap.size := by simpa using hs2
  have G4 := grownBy_set (Below.refl _ w4) 2 (.string ⟨KB.toArray⟩) (c := w1.heap.size)
  have B5 := Lib.hid (heap_setCell w4 w1.heap.size 2 (.string ⟨KB.toArray⟩) B4.out)
  have A5 := Lib.hid (carry G4 A4.out (by omega))
  have hcu5 := hcu4.grown G4 (by omega) (fun k n => by rw [B4.out]; simp)
  have hm5 : SeenAt (w4.setCell ⟨w1.heap.size, 2, none⟩ (.string ⟨KB.toArray⟩)) r ks := MapAt.old hm4 (G4.block r hm4.lt (fun e => by cases e; omega))
  have hv5 := hv4'.grown G4 (by omega)
  refine (isKey_any _ KB _ hv5 (by decide) (by decide) (by unfold maxB; omega)).mono ?_
  rintro e w6 ⟨rfl, hb6⟩
  have hs6 : w4.heap.size ≤ w6.heap.size := by simpa using hb6.size
  have B6 := Lib.hid (below_at hb6 (block_lt B5.out) B5.out)
  have A6 := Lib.hid (below_at hb6 (block_lt A5.out) A5.out)
  have hcu6 := hcu5.old hb6
  have hm6 : SeenAt w6 r ks := MapAt.old hm5 (hb6.block r hm5.lt)
  have hv6 := hv5.new hb6
  clear q0 q1 q2 f2
  go_wp2_with fail
  refine (must_any base c _ _ 7 _ hcu6 (by omega)).mono ?_
  rintro e w7 ⟨rfl, hcu7, hg7⟩
  have hs7 := hg7.size
  have B7 := Lib.hid (carry hg7 B6.out (by omega))
  have A7 := Lib.hid (carry hg7 A6.out (by omega))
  have hm7 : SeenAt w7 r ks := MapAt.old hm6 (hg7.block r hm6.lt (fun e => by cases e; omega))
  have hv7 := hv6.grown hg7 (by omega)
  have hzero : ∀ u : World, (zeroValue 3).run Tryz.prog u = .ok (.int .i64 0) u := fun u => by kernel_rfl
  obtain ⟨W1, st, hE, hM1, hG1, hS1, hTT⟩ := MapAt.entry hm7 (mt := 242) (e := 3) (z := .int .i64 0) Tryz.underlying242 hzero (T2, KB)
  have L0 := fun n => MapAt.lookup (w := w7.drewN n) (MapAt.old hm7 rfl) (mt := 242) (e := 3) (z := .int .i64 0) Tryz.underlying242 (hzero _) (T2, KB)
  have L1 := fun n => MapAt.lookup (w := W1.drewN n) (MapAt.old hM1 rfl) (mt := 242) (e := 3) (z := .int .i64 0) Tryz.underlying242 (hzero _) (T2, KB)
  rw [atK_put] at L1
  obtain ⟨cnt, hcnt⟩ : ∃ cnt : Int, cnt = if ks.contains (T2, KB) then 1 else 0 := ⟨_, rfl⟩
  have hat : (atK (T2, KB) (ks.map fun k => (k, (Value.int .i64 1)))).getD (.int .i64 0) = .int .i64 cnt := by rw [hcnt]; exact atK_ones _ _
  obtain ⟨W2, hT3, hM2, hG2, hS2⟩ := hTT (.int .i64 (cnt + 1))
  have L2 := fun n => MapAt.lookup (w := W2.drewN n) (MapAt.old hM2 rfl) (mt := 242) (e := 3) (z := .int .i64 0) Tryz.underlying242 (hzero _) (T2, KB)
  rw [atK_put] at L2
  simp only [hat, Option.getD_some] at hE hT3 L0 L1 L2
  simp only [kV, keyV, goInt, HT2.out] at hE hT3 L0 L1 L2
  have HM2 := Lib.hid hM2
  have HM1 := Lib.hid hM1
  clear hM1 hM2 hTT hat hzero
  have hc2 : 0 ≤ cnt ∧ cnt ≤ 1 := by rw [hcnt]; split <;> omega
  have Hcnt := Lib.hid hcnt
  clear hcnt
  have b1 : w7.cell? ⟨w1.heap.size, 1, none⟩ = some _ := cell_of_row _ _ 1 _ _ _ B7.out
  have b2 : w7.cell? ⟨w1.heap.size, 2, none⟩ = some _ := cell_of_row _ _ 2 _ _ _ B7.out
  have X1 := Lib.hid (carry hG1 B7.out (by omega))
  have X2 := Lib.hid (carry hG2 X1.out (by omega))
  have b3 : W1.cell? ⟨w1.heap.size, 1, none⟩ = some _ := cell_of_row _ _ 1 _ _ _ X1.out
  have b4 : W1.cell? ⟨w1.heap.size, 2, none⟩ = some _ := cell_of_row _ _ 2 _ _ _ X1.out
  have b5 : W2.cell? ⟨w1.heap.size, 1, none⟩ = some _ := cell_of_row _ _ 1 _ _ _ X2.out
  have b6 : W2.cell? ⟨w1.heap.size, 2, none⟩ = some _ := cell_of_row _ _ 2 _ _ _ X2.out
  have hlt10 := block_lt X2.out
  have L0' := L0 1
  have L1' := L1 1
  have L2' := L2 1
  have hE' := hE 1
  have hT3' := hT3 1
  have hdr : ∀ w : World, w.drewN 1 = w.drew := fun _ => rfl
  rw [hdr] at L0' L1' L2'
  rw [hdr, hdr] at hE' hT3'
  clear L0 L1 L2 hE hT3 hdr
  have hlt9 := block_lt X1.out
  have hlt8 := block_lt B7.out
  go_wp2
  go_region
  go_wp2_with fail
  have hcu8 := (hcu7.grown hG1 hcr hm7.noFault).grown hG2 hcr HM1.out.noFault
  have hsW : w7.heap.size = W2.heap.size := by omega
  rw [show (cnt + 1 == 1) = !(ks.contains (T2, KB)) by rw [Hcnt.out]; cases ks.contains (T2, KB) <;> rfl, HT2.out]
  refine (must_any base c _ _ 8 W2.drew (hcu8.old ((Below.refl _ W2).drew)) (by simp; omega)).mono ?_
  rintro e w9 ⟨rfl, hcu9, hg9'⟩
  have hg9 : W2.grownBy w9 (some c) := ⟨hg9'.os, hg9'.tape, hg9'.output, hg9'.size, hg9'.block⟩
  clear hg9'
  have hs9 : W2.heap.size ≤ w9.heap.size := hg9.size
  have B9 := Lib.hid (carry hg9 X2.out (by omega))
  have A8 := Lib.hid (carry hG1 A7.out (by omega))
  have A8' := Lib.hid (carry hG2 A8.out (by omega))
  have A9 := Lib.hid (carry hg9 A8'.out (by omega))
  have hm9 := MapAt.old (w' := w9) HM2.out (hg9.block r HM2.out.lt (fun e => by cases e; omega))
  have hv9 := ((hv7.grown hG1 (by omega)).grown hG2 (by omega)).grown hg9 (by omega)
  clear b1 b2 b3 b4 b5 b6 L0' L1' L2' hE' hT3' hcu7 hcu8 hlt8 hlt9 hlt10
  have m0 : w9.cell? ⟨w1.heap.size, 0, none⟩ = some _ := cell_of_row _ _ 0 _ _ _ B9.out
  have m1 : w9.cell? ⟨w1.heap.size, 1, none⟩ = some _ := cell_of_row _ _ 1 _ _ _ B9.out
  have hlt11 := block_lt B9.out
  have y1 := hv9.c1
  have y3 := hv9.c3
  have y5 := hv9.c5
  have yz := hv9.two
  go_wp2_with fail
  refine (take_any base c _ 4 _ hcu9 (by omega) (by decide) (by decide)).mono ?_
  rintro e w10 ⟨v10, rfl, hv10, -, hcu10, hg10⟩
  obtain ⟨VB, hVB, hv10⟩ := hv10.name
  have HVB := Lib.hid hVB
  have hvl : VB.length ≤ 4 := by rw [hVB, Cu.take_length]; decide
  clear hVB y1 y3 y5 yz m0 m1
  have hs10 := hg10.size
  have B10 := Lib.hid (carry hg10 B9.out (by omega))
  have A10 := Lib.hid (carry hg10 A9.out (by omega))
  have hm10 := MapAt.old (w' := w10) hm9 (hg10.block r hm9.lt (fun e => by cases e; omega))
  have hv10' := hv9.grown hg10 (by omega)
  have q0 : w10.cell? ⟨w1.heap.size, 0, none⟩ = some _ := cell_of_row _ _ 0 _ _ _ B10.out
  have q1 : w10.cell? ⟨w1.heap.size, 1, none⟩ = some _ := cell_of_row _ _ 1 _ _ _ B10.out
  have q2 : w10.cell? ⟨w1.heap.size, 2, none⟩ = some _ := cell_of_row _ _ 2 _ _ _ B10.out
  have q3 : w10.cell? ⟨w1.heap.size, 3, none⟩ = some _ := cell_of_row _ _ 3 _ _ _ B10.out
  have f3 := frozen_of_row _ _ 3 _ _ B10.out
  have hlt12 := block_lt B10.out
  go_wp2_with (refine wpList_string_of rfl (.tmp 81) rfl VB hv10 ?_)
  have G10 := grownBy_set (Below.refl _ w10) 3 (.string ⟨VB.toArray⟩) (c := w1.heap.size)
  have B11 := Lib.hid (heap_setCell w10 w1.heap.size 3 (.string ⟨VB.toArray⟩) B10.out)
  have A11 := Lib.hid (carry G10 A10.out (by omega))
  have hcu11 := hcu10.grown G10 (by omega) (fun k n => by rw [B10.out]; simp)
  have hm11 := MapAt.old (w' := w10.setCell ⟨w1.heap.size, 3, none⟩ (.string ⟨VB.toArray⟩)) hm10 (G10.block r hm10.lt (fun e => by cases e; omega))
  have hv11 := hv10'.grown G10 (by omega)
  refine (isValue_any _ VB _ hv11 (by decide) (by decide) (by unfold maxB; omega)).mono ?_
  rintro e w12 ⟨rfl, hb12⟩
  have hs12 : w10.heap.size ≤ w12.heap.size := by simpa using hb12.size
  have B12 := Lib.hid (below_at hb12 (block_lt B11.out) B11.out)
  have A12 := Lib.hid (below_at hb12 (block_lt A11.out) A11.out)
  have hcu12 := hcu11.old hb12
  have hm12 := MapAt.old (w' := w12) hm11 (hb12.block r hm11.lt)
  clear q0 q1 q2 q3 f3
  go_wp2_with fail
  refine (must_any base c _ _ 9 _ hcu12 (by omega)).mono ?_
  rintro e w13 ⟨rfl, hcu13, hg13⟩
  have hs13 := hg13.size
  have B13 := Lib.hid (carry hg13 B12.out (by omega))
  have A13 := Lib.hid (carry hg13 A12.out (by omega))
  have hm13 := MapAt.old (w' := w13) hm12 (hg13.block r hm12.lt (fun e => by cases e; omega))
  have q0 : w13.cell? ⟨w1.heap.size, 0, none⟩ = some _ := cell_of_row _ _ 0 _ _ _ B13.out
  have q1 : w13.cell? ⟨w1.heap.size, 1, none⟩ = some _ := cell_of_row _ _ 1 _ _ _ B13.out
  have q2 : w13.cell? ⟨w1.heap.size, 2, none⟩ = some _ := cell_of_row _ _ 2 _ _ _ B13.out
  have q3 : w13.cell? ⟨w1.heap.size, 3, none⟩ = some _ := cell_of_row _ _ 3 _ _ _ B13.out
  have p0 : w13.cell? ⟨w.heap.size, 0, none⟩ = some _ := cell_of_row _ _ 0 _ _ _ A13.out
  have p1 : w13.cell? ⟨w.heap.size, 1, none⟩ = some _ := cell_of_row _ _ 1 _ _ _ A13.out
  have p2 : w13.cell? ⟨w.heap.size, 2, none⟩ = some _ := cell_of_row _ _ 2 _ _ _ A13.out
  have p3 : w13.cell? ⟨w.heap.size, 3, none⟩ = some _ := cell_of_row _ _ 3 _ _ _ A13.out
  have e0 := frozen_of_row _ _ 0 _ _ A13.out
  have e1 := frozen_of_row _ _ 1 _ _ A13.out
  have e2 := frozen_of_row _ _ 2 _ _ A13.out
  have e3 := frozen_of_row _ _ 3 _ _ A13.out
  have hlt13 := block_lt B13.out
  have hlt14 := block_lt A13.out
  go_wp2
  have hR : ((cu.take 2).1.opTail 1 0 ks 6 4).2 = ⟨1, 0, KB, VB⟩ := by
    rw [HVB.out, HKB.out]
    rfl
  have GL := grownBy_set2 (grownBy_set2 (grownBy_set2 (grownBy_set (Below.refl _ w13) 0 (.int .i64 1) (c := w.heap.size)) 1 (.int .i64 0)) 2 (.string ⟨KB.toArray⟩)) 3 (.string ⟨VB.toArray⟩)
  refine bodyPost_ret (v := opV ⟨1, 0, KB, VB⟩) (by simp [results, Tryz.results144, go_sem, opV, p0, p1, p2, p3]) rfl ⟨by rw [hR], ?_, fun hfn => ?_, ?_⟩
  · have := hcu13.grown GL hcl (fun k n => by rw [A13.out]; simp)
    exact this.eq (by rw [HVB.out, HKB.out]; rfl)
  · have hcon := opTail_seen hfn
    rw [← HKB.out] at hcon
    have hc0 : cnt = 0 := by rw [Hcnt.out, HT2.out, hcon]; rfl
    have hmf := MapAt.old hm13 (GL.block r hm13.lt (fun e => by cases e; omega))
    rw [hc0, HT2.out] at hmf
    rw [hR]
    have e1 := putK_seen (0, KB) ks hcon
    unfold SeenAt
    rw [← e1]
    exact hmf
  · have x1 := ((Ext.refl (fun i => i = c ∨ i = r) w).alloc _).grow hg1 (.inl (.inl rfl))
    have x2 := (x1.past (((Below.refl _ w1).alloc (Nat.le_refl _) _).drew)).grow hg2 (.inl (.inl rfl))
    have x3 := (((x2.grow hg3 (.inl (.inl rfl))).grow hg4 (.inl (.inl rfl))).grow G4 (.inr (by omega))).past hb6
    have x4 := (((x3.grow hg7 (.inl (.inl rfl))).grow hG1 (.inl (.inr rfl))).grow hG2 (.inl (.inr rfl))).grow hg9 (.inl (.inl rfl))
    exact (((((x4.grow hg10 (.inl (.inl rfl))).grow G10 (.inr (by omega))).past hb12).grow hg13 (.inl (.inl rfl)))).grow GL (.inr (Nat.le_refl _))
end Go.Proofs.YtkkfmkhbdoeglaaGreatDoor

/- The walk of package overlay's cursor.op: kind 1, table 1. No condition. -/
namespace Go.Proofs.YtkkfmkhbdoeglaaGreatDoor
open Go.RowKit

set_option maxRecDepth 100000 in
set_option maxHeartbeats 2000000 in
theorem op_1_1 (base c r : Nat) (cu : Cu) (x y : UInt8) (ks : List K) (w : World) (h : CurAt w base c cu) (hm : SeenAt w r ks) (hg : ShapesVar w) (hb2 : 2 ≤ base) (hb : base ≤ w.heap.size) (hcr : c < r)
    (hh : (cu.take 2).2 = [x, y]) (hx : (x.toNat : Int) = 1) (hy : (y.toNat : Int) = 1) (hf : (cu.take 2).1.f = none) :
    Calls Tryz.prog 144 #[.pointer (some ⟨c, 0, none⟩), .map (some r)] w fun e w' => e = .returned (opV ((cu.take 2).1.opTail 1 1 ks 5 4).2) ∧ CurAt w' base c ((cu.take 2).1.opTail 1 1 ks 5 4).1 ∧ (((cu.take 2).1.opTail 1 1 ks 5 4).1.f = none → SeenAt w' r (ks ++ [(1, ((cu.take 2).1.opTail 1 1 ks 5 4).2.key)])) ∧ Ext (fun i => i = c ∨ i = r) w w' := by
  have H0 := Lib.hid (heap_new w (.cells #[.int .i64 0, .int .i64 0, .string ⟨#[]⟩, .string ⟨#[]⟩] 96))
  have hcl := h.lt
  have hrl := hm.lt
  have hcb : base ≤ c := h.2.2.2.1
  have hsz : w.heap.size < (w.alloc (.cells #[.int .i64 0, .int .i64 0, .string ⟨#[]⟩, .string ⟨#[]⟩] 96)).heap.size := by simp
  have hm0 : SeenAt (w.alloc (.cells #[.int .i64 0, .int .i64 0, .string ⟨#[]⟩, .string ⟨#[]⟩] 96)) r ks := MapAt.old hm (heap_alloc_old _ _ hrl)
  have hg0 := hg.alloc (.cells #[.int .i64 0, .int .i64 0, .string ⟨#[]⟩, .string ⟨#[]⟩] 96)
  obtain ⟨T2, hT2⟩ : ∃ T2 : Int, T2 = 1 := ⟨_, rfl⟩
  have HT2 := Lib.hid hT2
  clear hT2
  go_enter Tryz.func144, Tryz.ntmps144
  go_wp2_with fail
  refine (take_any base c cu 2 _ (h.old ((Below.refl _ w).alloc (Nat.le_refl _) _)) (by simp; omega) (by decide) (by decide)).mono ?_
  rintro e w1 ⟨v, rfl, hv, -, hcu, hg1⟩
  rw [hh] at hv
  obtain ⟨a, cap, rfl, hcap, hxx⟩ := hv.opened
  obtain ⟨b, off, rfl, hc0⟩ := hxx 0 (by simp)
  obtain ⟨b', off', he, hc1⟩ := hxx 1 (by simp)
  cases he
  simp only [Nat.add_zero, List.getElem_cons_zero, List.getElem_cons_succ] at hc0 hc1
  have hlt1 := cell_lt hc0
  clear hxx hv
  simp only [List.length_cons, List.length_nil] at hcap
  have hs1 := hg1.size
  have A1 := Lib.hid (carry hg1 H0.out (by omega))
  have hcl1 := hcu.lt
  have hm1 : SeenAt w1 r ks := MapAt.old hm0 (hg1.block r (by simp; omega) (fun e => by cases e; omega))
  have hg1' := hg0.grown hg1 (by omega)
  have hsv := hg1'.two
  go_wp2
  go_region
  go_wp2_with fail
  refine (must_any base c _ _ 6 _ (hcu.old (((Below.refl _ w1).alloc (Nat.le_refl _) _).drew)) (by simp at hs1 ⊢; omega)).mono ?_
  rintro e w2 ⟨rfl, hcu2, hg2⟩
  have B2 := Lib.hid (carry hg2 (heap_new w1 _) (by omega))
  have A2 := Lib.hid (carry hg2 (heap_old w1 _ A1.out) (by omega))
  have hm2 : SeenAt w2 r ks := MapAt.old hm1 ((hg2.block r (by simp at hs1 ⊢; omega) (fun e => by cases e; omega)).trans (heap_alloc_old w1 _ (by simp at hs1; omega)))
  have hv2 := (hg1'.new (((Below.refl _ w1).alloc (Nat.le_refl _) _).drew)).grown hg2 (by omega)
  have q0 : w2.cell? ⟨w1.heap.size, 0, none⟩ = some _ := cell_of_row _ _ 0 _ _ _ B2.out
  have q1 : w2.cell? ⟨w1.heap.size, 1, none⟩ = some _ := cell_of_row _ _ 1 _ _ _ B2.out
  have hlt2 := block_lt B2.out
  have hs2 := hg2.size
  simp only [Cu.must_true] at hcu2
  go_wp2_with fail
  refine (must_any base c _ _ 6 _ hcu2 (by simp at hs1 hs2 ⊢; omega)).mono ?_
  rintro e w3 ⟨rfl, hcu3, hg3⟩
  have hs3 := hg3.size
  have B3 := Lib.hid (carry hg3 B2.out (by omega))
  have A3 := Lib.hid (carry hg3 A2.out (by omega))
  have hm3 : SeenAt w3 r ks := MapAt.old hm2 (hg3.block r hm2.lt (fun e => by cases e; omega))
  have hv3 := hv2.grown hg3 (by omega)
  simp only [Cu.must_true] at hcu3
  clear q0 q1
  have q1 : w3.cell? ⟨w1.heap.size, 1, none⟩ = some _ := cell_of_row _ _ 1 _ _ _ B3.out
  have k3 := hcu3.noFault hf
  have hlt3 := hcu3.lt
  have hlt4 := block_lt B3.out
  have z0 := hv3.c0
  have z2 := hv3.c2
  have z4 := hv3.c4
  have z := hv3.two
  go_wp2_with fail
  refine (take_any base c _ 5 _ hcu3 (by simp at hs1 hs2 hs3 ⊢; omega) (by decide) (by decide)).mono ?_
  rintro e w4 ⟨v4, rfl, hv4, -, hcu4, hg4⟩
  obtain ⟨KB, hKB, hv4⟩ := hv4.name
  have HKB := Lib.hid hKB
  have hkl : KB.length ≤ 6 := by rw [hKB, Cu.take_length]; decide
  clear hKB z0 z2 z4 z q1 k3
  have hs4 := hg4.size
  have B4 := Lib.hid (carry hg4 B3.out (by omega))
  have A4 := Lib.hid (carry hg4 A3.out (by omega))
  have hm4 : SeenAt w4 r ks := MapAt.old hm3 (hg4.block r hm3.lt (fun e => by cases e; omega))
  have hv4' := hv3.grown hg4 (by omega)
  have q0 : w4.cell? ⟨w1.heap.size, 0, none⟩ = some _ := cell_of_row _ _ 0 _ _ _ B4.out
  have q1 : w4.cell? ⟨w1.heap.size, 1, none⟩ = some _ := cell_of_row _ _ 1 _ _ _ B4.out
  have q2 : w4.cell? ⟨w1.heap.size, 2, none⟩ = some _ := cell_of_row _ _ 2 _ _ _ B4.out
  have f2 := frozen_of_row _ _ 2 _ _ B4.out
  have hlt5 := block_lt B4.out
  go_wp2_with (refine wpList_string_of rfl (.tmp 48) rfl KB hv4 ?_)
  have hs1' : w.heap.size + 1 ≤ w1.heap.size := by simpa using hs1
  have hs2' : w1.heap.size + 1 ≤ w2.heap.size := by simpa using hs2
  have G4 := grownBy_set (Below.refl _ w4) 2 (.string ⟨KB.toArray⟩) (c := w1.heap.size)
  have B5 := Lib.hid (heap_setCell w4 w1.heap.size 2 (.string ⟨KB.toArray⟩) B4.out)
  have A5 := Lib.hid (carry G4 A4.out (by omega))
  have hcu5 := hcu4.grown G4 (by omega) (fun k n => by rw [B4.out]; simp)
  have hm5 : SeenAt (w4.setCell ⟨w1.heap.size, 2, none⟩ (.string ⟨KB.toArray⟩)) r ks := MapAt.old hm4 (G4.block r hm4.lt (fun e => by cases e; omega))
  have hv5 := hv4'.grown G4 (by omega)
  refine (isKey_any _ KB _ hv5 (by decide) (by decide) (by unfold maxB; omega)).mono ?_
  rintro e w6 ⟨rfl, hb6⟩
  have hs6 : w4.heap.size ≤ w6.heap.size := by simpa using hb6.size
  have B6 := Lib.hid (below_at hb6 (block_lt B5.out) B5.out)
  have A6 := Lib.hid (below_at hb6 (block_lt A5.out) A5.out)
  have hcu6 := hcu5.old hb6
  have hm6 : SeenAt w6 r ks := MapAt.old hm5 (hb6.block r hm5.lt)
  have hv6 := hv5.new hb6
  clear q0 q1 q2 f2
  go_wp2_with fail
  refine (must_any base c _ _ 7 _ hcu6 (by omega)).mono ?_
  rintro e w7 ⟨rfl, hcu7, hg7⟩
  have hs7 := hg7.size
  have B7 := Lib.hid (carry hg7 B6.out (by omega))
  have A7 := Lib.hid (carry hg7 A6.out (by omega))
  have hm7 : SeenAt w7 r ks := MapAt.old hm6 (hg7.block r hm6.lt (fun e => by cases e; omega))
  have hv7 := hv6.grown hg7 (by omega)
  have hzero : ∀ u : World, (zeroValue 3).run Tryz.prog u = .ok (.int .i64 0) u := fun u => by kernel_rfl
  obtain ⟨W1, st, hE, hM1, hG1, hS1, hTT⟩ := MapAt.entry hm7 (mt := 242) (e := 3) (z := .int .i64 0) Tryz.underlying242 hzero (T2, KB)
  have L0 := fun n => MapAt.lookup (w := w7.drewN n) (MapAt.old hm7 rfl) (mt := 242) (e := 3) (z := .int .i64 0) Tryz.underlying242 (hzero _) (T2, KB)
  have L1 := fun n => MapAt.lookup (w := W1.drewN n) (MapAt.old hM1 rfl) (mt := 242) (e := 3) (z := .int .i64 0) Tryz.underlying242 (hzero _) (T2, KB)
  rw [atK_put] at L1
  obtain ⟨cnt, hcnt⟩ : ∃ cnt : Int, cnt = if ks.contains (T2, KB) then 1 else 0 := ⟨_, rfl⟩
  have hat : (atK (T2, KB) (ks.map fun k => (k, (Value.int .i64 1)))).getD (.int .i64 0) = .int .i64 cnt := by rw [hcnt]; exact atK_ones _ _
  obtain ⟨W2, hT3, hM2, hG2, hS2⟩ := hTT (.int .i64 (cnt + 1))
  have L2 := fun n => MapAt.lookup (w := W2.drewN n) (MapAt.old hM2 rfl) (mt := 242) (e := 3) (z := .int .i64 0) Tryz.underlying242 (hzero _) (T2, KB)
  rw [atK_put] at L2
  simp only [hat, Option.getD_some] at hE hT3 L0 L1 L2
  simp only [kV, keyV, goInt, HT2.out] at hE hT3 L0 L1 L2
  have HM2 := Lib.hid hM2
  have HM1 := Lib.hid hM1
  clear hM1 hM2 hTT hat hzero
  have hc2 : 0 ≤ cnt ∧ cnt ≤ 1 := by rw [hcnt]; split <;> omega
  have Hcnt := Lib.hid hcnt
  clear hcnt
  have b1 : w7.cell? ⟨w1.heap.size, 1, none⟩ = some _ := cell_of_row _ _ 1 _ _ _ B7.out
  have b2 : w7.cell? ⟨w1.heap.size, 2, none⟩ = some _ := cell_of_row _ _ 2 _ _ _ B7.out
  have X1 := Lib.hid (carry hG1 B7.out (by omega))
  have X2 := Lib.hid (carry hG2 X1.out (by omega))
  have b3 : W1.cell? ⟨w1.heap.size, 1, none⟩ = some _ := cell_of_row _ _ 1 _ _ _ X1.out
  have b4 : W1.cell? ⟨w1.heap.size, 2, none⟩ = some _ := cell_of_row _ _ 2 _ _ _ X1.out
  have b5 : W2.cell? ⟨w1.heap.size, 1, none⟩ = some _ := cell_of_row _ _ 1 _ _ _ X2.out
  have b6 : W2.cell? ⟨w1.heap.size, 2, none⟩ = some _ := cell_of_row _ _ 2 _ _ _ X2.out
  have hlt10 := block_lt X2.out
  have L0' := L0 1
  have L1' := L1 1
  have L2' := L2 1
  have hE' := hE 1
  have hT3' := hT3 1
  have hdr : ∀ w : World, w.drewN 1 = w.drew := fun _ => rfl
  rw [hdr] at L0' L1' L2'
  rw [hdr, hdr] at hE' hT3'
  clear L0 L1 L2 hE hT3 hdr
  have hlt9 := block_lt X1.out
  have hlt8 := block_lt B7.out
  go_wp2
  go_region
  go_wp2_with fail
  have hcu8 := (hcu7.grown hG1 hcr hm7.noFault).grown hG2 hcr HM1.out.noFault
  have hsW : w7.heap.size = W2.heap.size := by omega
  rw [show (cnt + 1 == 1) = !(ks.contains (T2, KB)) by rw [Hcnt.out]; cases ks.contains (T2, KB) <;> rfl, HT2.out]
  refine (must_any base c _ _ 8 W2.drew (hcu8.old ((Below.refl _ W2).drew)) (by simp; omega)).mono ?_
  rintro e w9 ⟨rfl, hcu9, hg9'⟩
  have hg9 : W2.grownBy w9 (some c) := ⟨hg9'.os, hg9'.tape, hg9'.output, hg9'.size, hg9'.block⟩
  clear hg9'
  have hs9 : W2.heap.size ≤ w9.heap.size := hg9.size
  have B9 := Lib.hid (carry hg9 X2.out (by omega))
  have A8 := Lib.hid (carry hG1 A7.out (by omega))
  have A8' := Lib.hid (carry hG2 A8.out (by omega))
  have A9 := Lib.hid (carry hg9 A8'.out (by omega))
  have hm9 := MapAt.old (w' := w9) HM2.out (hg9.block r HM2.out.lt (fun e => by cases e; omega))
  have hv9 := ((hv7.grown hG1 (by omega)).grown hG2 (by omega)).grown hg9 (by omega)
  clear b1 b2 b3 b4 b5 b6 L0' L1' L2' hE' hT3' hcu7 hcu8 hlt8 hlt9 hlt10
  have m0 : w9.cell? ⟨w1.heap.size, 0, none⟩ = some _ := cell_of_row _ _ 0 _ _ _ B9.out
  have m1 : w9.cell? ⟨w1.heap.size, 1, none⟩ = some _ := cell_of_row _ _ 1 _ _ _ B9.out
  have hlt11 := block_lt B9.out
  have y1 := hv9.c1
  have y3 := hv9.c3
  have y5 := hv9.c5
  have yz := hv9.two
  go_wp2_with fail
  refine (take_any base c _ 4 _ hcu9 (by omega) (by decide) (by decide)).mono ?_
  rintro e w10 ⟨v10, rfl, hv10, -, hcu10, hg10⟩
  obtain ⟨VB, hVB, hv10⟩ := hv10.name
  have HVB := Lib.hid hVB
  have hvl : VB.length ≤ 4 := by rw [hVB, Cu.take_length]; decide
  clear hVB y1 y3 y5 yz m0 m1
  have hs10 := hg10.size
  have B10 := Lib.hid (carry hg10 B9.out (by omega))
  have A10 := Lib.hid (carry hg10 A9.out (by omega))
  have hm10 := MapAt.old (w' := w10) hm9 (hg10.block r hm9.lt (fun e => by cases e; omega))
  have hv10' := hv9.grown hg10 (by omega)
  have q0 : w10.cell? ⟨w1.heap.size, 0, none⟩ = some _ := cell_of_row _ _ 0 _ _ _ B10.out
  have q1 : w10.cell? ⟨w1.heap.size, 1, none⟩ = some _ := cell_of_row _ _ 1 _ _ _ B10.out
  have q2 : w10.cell? ⟨w1.heap.size, 2, none⟩ = some _ := cell_of_row _ _ 2 _ _ _ B10.out
  have q3 : w10.cell? ⟨w1.heap.size, 3, none⟩ = some _ := cell_of_row _ _ 3 _ _ _ B10.out
  have f3 := frozen_of_row _ _ 3 _ _ B10.out
  have hlt12 := block_lt B10.out
  go_wp2_with (refine wpList_string_of rfl (.tmp 81) rfl VB hv10 ?_)
  have G10 := grownBy_set (Below.refl _ w10) 3 (.string ⟨VB.toArray⟩) (c := w1.heap.size)
  have B11 := Lib.hid (heap_setCell w10 w1.heap.size 3 (.string ⟨VB.toArray⟩) B10.out)
  have A11 := Lib.hid (carry G10 A10.out (by omega))
  have hcu11 := hcu10.grown G10 (by omega) (fun k n => by rw [B10.out]; simp)
  have hm11 := MapAt.old (w' := w10.setCell ⟨w1.heap.size, 3, none⟩ (.string ⟨VB.toArray⟩)) hm10 (G10.block r hm10.lt (fun e => by cases e; omega))
  have hv11 := hv10'.grown G10 (by omega)
  refine (isValue_any _ VB _ hv11 (by decide) (by decide) (by unfold maxB; omega)).mono ?_
  rintro e w12 ⟨rfl, hb12⟩
  have hs12 : w10.heap.size ≤ w12.heap.size := by simpa using hb12.size
  have B12 := Lib.hid (below_at hb12 (block_lt B11.out) B11.out)
  have A12 := Lib.hid (below_at hb12 (block_lt A11.out) A11.out)
  have hcu12 := hcu11.old hb12
  have hm12 := MapAt.old (w' := w12) hm11 (hb12.block r hm11.lt)
  clear q0 q1 q2 q3 f3
  go_wp2_with fail
  refine (must_any base c _ _ 9 _ hcu12 (by omega)).mono ?_
  rintro e w13 ⟨rfl, hcu13, hg13⟩
  have hs13 := hg13.size
  have B13 := Lib.hid (carry hg13 B12.out (by omega))
  have A13 := Lib.hid (carry hg13 A12.out (by omega))
  have hm13 := MapAt.old (w' := w13) hm12 (hg13.block r hm12.lt (fun e => by cases e; omega))
  have q0 : w13.cell? ⟨w1.heap.size, 0, none⟩ = some _ := cell_of_row _ _ 0 _ _ _ B13.out
  have q1 : w13.cell? ⟨w1.heap.size, 1, none⟩ = some _ := cell_of_row _ _ 1 _ _ _ B13.out
  have q2 : w13.cell? ⟨w1.heap.size, 2, none⟩ = some _ := cell_of_row _ _ 2 _ _ _ B13.out
  have q3 : w13.cell? ⟨w1.heap.size, 3, none⟩ = some _ := cell_of_row _ _ 3 _ _ _ B13.out
  have p0 : w13.cell? ⟨w.heap.size, 0, none⟩ = some _ := cell_of_row _ _ 0 _ _ _ A13.out
  have p1 : w13.cell? ⟨w.heap.size, 1, none⟩ = some _ := cell_of_row _ _ 1 _ _ _ A13.out
  have p2 : w13.cell? ⟨w.heap.size, 2, none⟩ = some _ := cell_of_row _ _ 2 _ _ _ A13.out
  have p3 : w13.cell? ⟨w.heap.size, 3, none⟩ = some _ := cell_of_row _ _ 3 _ _ _ A13.out
  have e0 := frozen_of_row _ _ 0 _ _ A13.out
  have e1 := frozen_of_row _ _ 1 _ _ A13.out
  have e2 := frozen_of_row _ _ 2 _ _ A13.out
  have e3 := frozen_of_row _ _ 3 _ _ A13.out
  have hlt13 := block_lt B13.out
  have hlt14 := block_lt A13.out
  go_wp2
  have hR : ((cu.take 2).1.opTail 1 1 ks 5 4).2 = ⟨1, 1, KB, VB⟩ := by
    rw [HVB.out, HKB.out]
    rfl
  have GL := grownBy_set2 (grownBy_set2 (grownBy_set2 (grownBy_set (Below.refl _ w13) 0 (.int .i64 1) (c := w.heap.size)) 1 (.int .i64 1)) 2 (.string ⟨KB.toArray⟩)) 3 (.string ⟨VB.toArray⟩)
  refine bodyPost_ret (v := opV ⟨1, 1, KB, VB⟩) (by simp [results, Tryz.results144, go_sem, opV, p0, p1, p2, p3]) rfl ⟨by rw [hR], ?_, fun hfn => ?_, ?_⟩
  · have := hcu13.grown GL hcl (fun k n => by rw [A13.out]; simp)
    exact this.eq (by rw [HVB.out, HKB.out]; rfl)
  · have hcon := opTail_seen hfn
    rw [← HKB.out] at hcon
    have hc0 : cnt = 0 := by rw [Hcnt.out, HT2.out, hcon]; rfl
    have hmf := MapAt.old hm13 (GL.block r hm13.lt (fun e => by cases e; omega))
    rw [hc0, HT2.out] at hmf
    rw [hR]
    have e1 := putK_seen (1, KB) ks hcon
    unfold SeenAt
    rw [← e1]
    exact hmf
  · have x1 := ((Ext.refl (fun i => i = c ∨ i = r) w).alloc _).grow hg1 (.inl (.inl rfl))
    have x2 := (x1.past (((Below.refl _ w1).alloc (Nat.le_refl _) _).drew)).grow hg2 (.inl (.inl rfl))
    have x3 := (((x2.grow hg3 (.inl (.inl rfl))).grow hg4 (.inl (.inl rfl))).grow G4 (.inr (by omega))).past hb6
    have x4 := (((x3.grow hg7 (.inl (.inl rfl))).grow hG1 (.inl (.inr rfl))).grow hG2 (.inl (.inr rfl))).grow hg9 (.inl (.inl rfl))
    exact (((((x4.grow hg10 (.inl (.inl rfl))).grow G10 (.inr (by omega))).past hb12).grow hg13 (.inl (.inl rfl)))).grow GL (.inr (Nat.le_refl _))
end Go.Proofs.YtkkfmkhbdoeglaaGreatDoor

/- The walk of package overlay's cursor.op: kind 1, table 2. No condition. -/
namespace Go.Proofs.YtkkfmkhbdoeglaaGreatDoor
open Go.RowKit

set_option maxRecDepth 100000 in
set_option maxHeartbeats 2000000 in
theorem op_1_2 (base c r : Nat) (cu : Cu) (x y : UInt8) (ks : List K) (w : World) (h : CurAt w base c cu) (hm : SeenAt w r ks) (hg : ShapesVar w) (hb2 : 2 ≤ base) (hb : base ≤ w.heap.size) (hcr : c < r)
    (hh : (cu.take 2).2 = [x, y]) (hx : (x.toNat : Int) = 1) (hy : (y.toNat : Int) = 2) (hf : (cu.take 2).1.f = none) :
    Calls Tryz.prog 144 #[.pointer (some ⟨c, 0, none⟩), .map (some r)] w fun e w' => e = .returned (opV ((cu.take 2).1.opTail 1 2 ks 2 2).2) ∧ CurAt w' base c ((cu.take 2).1.opTail 1 2 ks 2 2).1 ∧ (((cu.take 2).1.opTail 1 2 ks 2 2).1.f = none → SeenAt w' r (ks ++ [(2, ((cu.take 2).1.opTail 1 2 ks 2 2).2.key)])) ∧ Ext (fun i => i = c ∨ i = r) w w' := by
  have H0 := Lib.hid (heap_new w (.cells #[.int .i64 0, .int .i64 0, .string ⟨#[]⟩, .string ⟨#[]⟩] 96))
  have hcl := h.lt
  have hrl := hm.lt
  have hcb : base ≤ c := h.2.2.2.1
  have hsz : w.heap.size < (w.alloc (.cells #[.int .i64 0, .int .i64 0, .string ⟨#[]⟩, .string ⟨#[]⟩] 96)).heap.size := by simp
  have hm0 : SeenAt (w.alloc (.cells #[.int .i64 0, .int .i64 0, .string ⟨#[]⟩, .string ⟨#[]⟩] 96)) r ks := MapAt.old hm (heap_alloc_old _ _ hrl)
  have hg0 := hg.alloc (.cells #[.int .i64 0, .int .i64 0, .string ⟨#[]⟩, .string ⟨#[]⟩] 96)
  obtain ⟨T2, hT2⟩ : ∃ T2 : Int, T2 = 2 := ⟨_, rfl⟩
  have HT2 := Lib.hid hT2
  clear hT2
  go_enter Tryz.func144, Tryz.ntmps144
  go_wp2_with fail
  refine (take_any base c cu 2 _ (h.old ((Below.refl _ w).alloc (Nat.le_refl _) _)) (by simp; omega) (by decide) (by decide)).mono ?_
  rintro e w1 ⟨v, rfl, hv, -, hcu, hg1⟩
  rw [hh] at hv
  obtain ⟨a, cap, rfl, hcap, hxx⟩ := hv.opened
  obtain ⟨b, off, rfl, hc0⟩ := hxx 0 (by simp)
  obtain ⟨b', off', he, hc1⟩ := hxx 1 (by simp)
  cases he
  simp only [Nat.add_zero, List.getElem_cons_zero, List.getElem_cons_succ] at hc0 hc1
  have hlt1 := cell_lt hc0
  clear hxx hv
  simp only [List.length_cons, List.length_nil] at hcap
  have hs1 := hg1.size
  have A1 := Lib.hid (carry hg1 H0.out (by omega))
  have hcl1 := hcu.lt
  have hm1 : SeenAt w1 r ks := MapAt.old hm0 (hg1.block r (by simp; omega) (fun e => by cases e; omega))
  have hg1' := hg0.grown hg1 (by omega)
  have hsv := hg1'.two
  go_wp2
  go_region
  go_wp2_with fail
  refine (must_any base c _ _ 6 _ (hcu.old (((Below.refl _ w1).alloc (Nat.le_refl _) _).drew)) (by simp at hs1 ⊢; omega)).mono ?_
  rintro e w2 ⟨rfl, hcu2, hg2⟩
  have B2 := Lib.hid (carry hg2 (heap_new w1 _) (by omega))
  have A2 := Lib.hid (carry hg2 (heap_old w1 _ A1.out) (by omega))
  have hm2 : SeenAt w2 r ks := MapAt.old hm1 ((hg2.block r (by simp at hs1 ⊢; omega) (fun e => by cases e; omega)).trans (heap_alloc_old w1 _ (by simp at hs1; omega)))
  have hv2 := (hg1'.new (((Below.refl _ w1).alloc (Nat.le_refl _) _).drew)).grown hg2 (by omega)
  have q0 : w2.cell? ⟨w1.heap.size, 0, none⟩ = some _ := cell_of_row _ _ 0 _ _ _ B2.out
  have q1 : w2.cell? ⟨w1.heap.size, 1, none⟩ = some _ := cell_of_row _ _ 1 _ _ _ B2.out
  have hlt2 := block_lt B2.out
  have hs2 := hg2.size
  simp only [Cu.must_true] at hcu2
  go_wp2_with fail
  refine (must_any base c _ _ 6 _ hcu2 (by simp at hs1 hs2 ⊢; omega)).mono ?_
  rintro e w3 ⟨rfl, hcu3, hg3⟩
  have hs3 := hg3.size
  have B3 := Lib.hid (carry hg3 B2.out (by omega))
  have A3 := Lib.hid (carry hg3 A2.out (by omega))
  have hm3 : SeenAt w3 r ks := MapAt.old hm2 (hg3.block r hm2.lt (fun e => by cases e; omega))
  have hv3 := hv2.grown hg3 (by omega)
  simp only [Cu.must_true] at hcu3
  clear q0 q1
  have q1 : w3.cell? ⟨w1.heap.size, 1, none⟩ = some _ := cell_of_row _ _ 1 _ _ _ B3.out
  have k3 := hcu3.noFault hf
  have hlt3 := hcu3.lt
  have hlt4 := block_lt B3.out
  have z0 := hv3.c0
  have z2 := hv3.c2
  have z4 := hv3.c4
  have z := hv3.two
  go_wp2_with fail
  refine (take_any base c _ 2 _ hcu3 (by simp at hs1 hs2 hs3 ⊢; omega) (by decide) (by decide)).mono ?_
  rintro e w4 ⟨v4, rfl, hv4, -, hcu4, hg4⟩
  obtain ⟨KB, hKB, hv4⟩ := hv4.name
  have HKB := Lib.hid hKB
  have hkl : KB.length ≤ 6 := by rw [hKB, Cu.take_length]; decide
  clear hKB z0 z2 z4 z q1 k3
  have hs4 := hg4.size
  have B4 := Lib.hid (carry hg4 B3.out (by omega))
  have A4 := Lib.hid (carry hg4 A3.out (by omega))
  have hm4 : SeenAt w4 r ks := MapAt.old hm3 (hg4.block r hm3.lt (fun e => by cases e; omega))
  have hv4' := hv3.grown hg4 (by omega)
  have q0 : w4.cell? ⟨w1.heap.size, 0, none⟩ = some _ := cell_of_row _ _ 0 _ _ _ B4.out
  have q1 : w4.cell? ⟨w1.heap.size, 1, none⟩ = some _ := cell_of_row _ _ 1 _ _ _ B4.out
  have q2 : w4.cell? ⟨w1.heap.size, 2, none⟩ = some _ := cell_of_row _ _ 2 _ _ _ B4.out
  have f2 := frozen_of_row _ _ 2 _ _ B4.out
  have hlt5 := block_lt B4.out
  go_wp2_with (refine wpList_string_of rfl (.tmp 48) rfl KB hv4 ?_)
  have hs1' : w.heap.size + 1 ≤ w1.heap.size := by simpa using hs1
  have hs2' : w1.heap.size + 1 ≤ w2.heap.size := by simpa using hs2
  have G4 := grownBy_set (Below.refl _ w4) 2 (.string ⟨KB.toArray⟩) (c := w1.heap.size)
  have B5 := Lib.hid (heap_setCell w4 w1.heap.size 2 (.string ⟨KB.toArray⟩) B4.out)
  have A5 := Lib.hid (carry G4 A4.out (by omega))
  have hcu5 := hcu4.grown G4 (by omega) (fun k n => by rw [B4.out]; simp)
  have hm5 : SeenAt (w4.setCell ⟨w1.heap.size, 2, none⟩ (.string ⟨KB.toArray⟩)) r ks := MapAt.old hm4 (G4.block r hm4.lt (fun e => by cases e; omega))
  have hv5 := hv4'.grown G4 (by omega)
  refine (isKey_any _ KB _ hv5 (by decide) (by decide) (by unfold maxB; omega)).mono ?_
  rintro e w6 ⟨rfl, hb6⟩
  have hs6 : w4.heap.size ≤ w6.heap.size := by simpa using hb6.size
  have B6 := Lib.hid (below_at hb6 (block_lt B5.out) B5.out)
  have A6 := Lib.hid (below_at hb6 (block_lt A5.out) A5.out)
  have hcu6 := hcu5.old hb6
  have hm6 : SeenAt w6 r ks := MapAt.old hm5 (hb6.block r hm5.lt)
  have hv6 := hv5.new hb6
  clear q0 q1 q2 f2
  go_wp2_with fail
  refine (must_any base c _ _ 7 _ hcu6 (by omega)).mono ?_
  rintro e w7 ⟨rfl, hcu7, hg7⟩
  have hs7 := hg7.size
  have B7 := Lib.hid (carry hg7 B6.out (by omega))
  have A7 := Lib.hid (carry hg7 A6.out (by omega))
  have hm7 : SeenAt w7 r ks := MapAt.old hm6 (hg7.block r hm6.lt (fun e => by cases e; omega))
  have hv7 := hv6.grown hg7 (by omega)
  have hzero : ∀ u : World, (zeroValue 3).run Tryz.prog u = .ok (.int .i64 0) u := fun u => by kernel_rfl
  obtain ⟨W1, st, hE, hM1, hG1, hS1, hTT⟩ := MapAt.entry hm7 (mt := 242) (e := 3) (z := .int .i64 0) Tryz.underlying242 hzero (T2, KB)
  have L0 := fun n => MapAt.lookup (w := w7.drewN n) (MapAt.old hm7 rfl) (mt := 242) (e := 3) (z := .int .i64 0) Tryz.underlying242 (hzero _) (T2, KB)
  have L1 := fun n => MapAt.lookup (w := W1.drewN n) (MapAt.old hM1 rfl) (mt := 242) (e := 3) (z := .int .i64 0) Tryz.underlying242 (hzero _) (T2, KB)
  rw [atK_put] at L1
  obtain ⟨cnt, hcnt⟩ : ∃ cnt : Int, cnt = if ks.contains (T2, KB) then 1 else 0 := ⟨_, rfl⟩
  have hat : (atK (T2, KB) (ks.map fun k => (k, (Value.int .i64 1)))).getD (.int .i64 0) = .int .i64 cnt := by rw [hcnt]; exact atK_ones _ _
  obtain ⟨W2, hT3, hM2, hG2, hS2⟩ := hTT (.int .i64 (cnt + 1))
  have L2 := fun n => MapAt.lookup (w := W2.drewN n) (MapAt.old hM2 rfl) (mt := 242) (e := 3) (z := .int .i64 0) Tryz.underlying242 (hzero _) (T2, KB)
  rw [atK_put] at L2
  simp only [hat, Option.getD_some] at hE hT3 L0 L1 L2
  simp only [kV, keyV, goInt, HT2.out] at hE hT3 L0 L1 L2
  have HM2 := Lib.hid hM2
  have HM1 := Lib.hid hM1
  clear hM1 hM2 hTT hat hzero
  have hc2 : 0 ≤ cnt ∧ cnt ≤ 1 := by rw [hcnt]; split <;> omega
  have Hcnt := Lib.hid hcnt
  clear hcnt
  have b1 : w7.cell? ⟨w1.heap.size, 1, none⟩ = some _ := cell_of_row _ _ 1 _ _ _ B7.out
  have b2 : w7.cell? ⟨w1.heap.size, 2, none⟩ = some _ := cell_of_row _ _ 2 _ _ _ B7.out
  have X1 := Lib.hid (carry hG1 B7.out (by omega))
  have X2 := Lib.hid (carry hG2 X1.out (by omega))
  have b3 : W1.cell? ⟨w1.heap.size, 1, none⟩ = some _ := cell_of_row _ _ 1 _ _ _ X1.out
  have b4 : W1.cell? ⟨w1.heap.size, 2, none⟩ = some _ := cell_of_row _ _ 2 _ _ _ X1.out
  have b5 : W2.cell? ⟨w1.heap.size, 1, none⟩ = some _ := cell_of_row _ _ 1 _ _ _ X2.out
  have b6 : W2.cell? ⟨w1.heap.size, 2, none⟩ = some _ := cell_of_row _ _ 2 _ _ _ X2.out
  have hlt10 := block_lt X2.out
  have L0' := L0 1
  have L1' := L1 1
  have L2' := L2 1
  have hE' := hE 1
  have hT3' := hT3 1
  have hdr : ∀ w : World, w.drewN 1 = w.drew := fun _ => rfl
  rw [hdr] at L0' L1' L2'
  rw [hdr, hdr] at hE' hT3'
  clear L0 L1 L2 hE hT3 hdr
  have hlt9 := block_lt X1.out
  have hlt8 := block_lt B7.out
  go_wp2
  go_region
  go_wp2_with fail
  have hcu8 := (hcu7.grown hG1 hcr hm7.noFault).grown hG2 hcr HM1.out.noFault
  have hsW : w7.heap.size = W2.heap.size := by omega
  rw [show (cnt + 1 == 1) = !(ks.contains (T2, KB)) by rw [Hcnt.out]; cases ks.contains (T2, KB) <;> rfl, HT2.out]
  refine (must_any base c _ _ 8 W2.drew (hcu8.old ((Below.refl _ W2).drew)) (by simp; omega)).mono ?_
  rintro e w9 ⟨rfl, hcu9, hg9'⟩
  have hg9 : W2.grownBy w9 (some c) := ⟨hg9'.os, hg9'.tape, hg9'.output, hg9'.size, hg9'.block⟩
  clear hg9'
  have hs9 : W2.heap.size ≤ w9.heap.size := hg9.size
  have B9 := Lib.hid (carry hg9 X2.out (by omega))
  have A8 := Lib.hid (carry hG1 A7.out (by omega))
  have A8' := Lib.hid (carry hG2 A8.out (by omega))
  have A9 := Lib.hid (carry hg9 A8'.out (by omega))
  have hm9 := MapAt.old (w' := w9) HM2.out (hg9.block r HM2.out.lt (fun e => by cases e; omega))
  have hv9 := ((hv7.grown hG1 (by omega)).grown hG2 (by omega)).grown hg9 (by omega)
  clear b1 b2 b3 b4 b5 b6 L0' L1' L2' hE' hT3' hcu7 hcu8 hlt8 hlt9 hlt10
  have m0 : w9.cell? ⟨w1.heap.size, 0, none⟩ = some _ := cell_of_row _ _ 0 _ _ _ B9.out
  have m1 : w9.cell? ⟨w1.heap.size, 1, none⟩ = some _ := cell_of_row _ _ 1 _ _ _ B9.out
  have hlt11 := block_lt B9.out
  have y1 := hv9.c1
  have y3 := hv9.c3
  have y5 := hv9.c5
  have yz := hv9.two
  go_wp2_with fail
  refine (take_any base c _ 2 _ hcu9 (by omega) (by decide) (by decide)).mono ?_
  rintro e w10 ⟨v10, rfl, hv10, -, hcu10, hg10⟩
  obtain ⟨VB, hVB, hv10⟩ := hv10.name
  have HVB := Lib.hid hVB
  have hvl : VB.length ≤ 4 := by rw [hVB, Cu.take_length]; decide
  clear hVB y1 y3 y5 yz m0 m1
  have hs10 := hg10.size
  have B10 := Lib.hid (carry hg10 B9.out (by omega))
  have A10 := Lib.hid (carry hg10 A9.out (by omega))
  have hm10 := MapAt.old (w' := w10) hm9 (hg10.block r hm9.lt (fun e => by cases e; omega))
  have hv10' := hv9.grown hg10 (by omega)
  have q0 : w10.cell? ⟨w1.heap.size, 0, none⟩ = some _ := cell_of_row _ _ 0 _ _ _ B10.out
  have q1 : w10.cell? ⟨w1.heap.size, 1, none⟩ = some _ := cell_of_row _ _ 1 _ _ _ B10.out
  have q2 : w10.cell? ⟨w1.heap.size, 2, none⟩ = some _ := cell_of_row _ _ 2 _ _ _ B10.out
  have q3 : w10.cell? ⟨w1.heap.size, 3, none⟩ = some _ := cell_of_row _ _ 3 _ _ _ B10.out
  have f3 := frozen_of_row _ _ 3 _ _ B10.out
  have hlt12 := block_lt B10.out
  go_wp2_with (refine wpList_string_of rfl (.tmp 81) rfl VB hv10 ?_)
  have G10 := grownBy_set (Below.refl _ w10) 3 (.string ⟨VB.toArray⟩) (c := w1.heap.size)
  have B11 := Lib.hid (heap_setCell w10 w1.heap.size 3 (.string ⟨VB.toArray⟩) B10.out)
  have A11 := Lib.hid (carry G10 A10.out (by omega))
  have hcu11 := hcu10.grown G10 (by omega) (fun k n => by rw [B10.out]; simp)
  have hm11 := MapAt.old (w' := w10.setCell ⟨w1.heap.size, 3, none⟩ (.string ⟨VB.toArray⟩)) hm10 (G10.block r hm10.lt (fun e => by cases e; omega))
  have hv11 := hv10'.grown G10 (by omega)
  refine (isValue_any _ VB _ hv11 (by decide) (by decide) (by unfold maxB; omega)).mono ?_
  rintro e w12 ⟨rfl, hb12⟩
  have hs12 : w10.heap.size ≤ w12.heap.size := by simpa using hb12.size
  have B12 := Lib.hid (below_at hb12 (block_lt B11.out) B11.out)
  have A12 := Lib.hid (below_at hb12 (block_lt A11.out) A11.out)
  have hcu12 := hcu11.old hb12
  have hm12 := MapAt.old (w' := w12) hm11 (hb12.block r hm11.lt)
  clear q0 q1 q2 q3 f3
  go_wp2_with fail
  refine (must_any base c _ _ 9 _ hcu12 (by omega)).mono ?_
  rintro e w13 ⟨rfl, hcu13, hg13⟩
  have hs13 := hg13.size
  have B13 := Lib.hid (carry hg13 B12.out (by omega))
  have A13 := Lib.hid (carry hg13 A12.out (by omega))
  have hm13 := MapAt.old (w' := w13) hm12 (hg13.block r hm12.lt (fun e => by cases e; omega))
  have q0 : w13.cell? ⟨w1.heap.size, 0, none⟩ = some _ := cell_of_row _ _ 0 _ _ _ B13.out
  have q1 : w13.cell? ⟨w1.heap.size, 1, none⟩ = some _ := cell_of_row _ _ 1 _ _ _ B13.out
  have q2 : w13.cell? ⟨w1.heap.size, 2, none⟩ = some _ := cell_of_row _ _ 2 _ _ _ B13.out
  have q3 : w13.cell? ⟨w1.heap.size, 3, none⟩ = some _ := cell_of_row _ _ 3 _ _ _ B13.out
  have p0 : w13.cell? ⟨w.heap.size, 0, none⟩ = some _ := cell_of_row _ _ 0 _ _ _ A13.out
  have p1 : w13.cell? ⟨w.heap.size, 1, none⟩ = some _ := cell_of_row _ _ 1 _ _ _ A13.out
  have p2 : w13.cell? ⟨w.heap.size, 2, none⟩ = some _ := cell_of_row _ _ 2 _ _ _ A13.out
  have p3 : w13.cell? ⟨w.heap.size, 3, none⟩ = some _ := cell_of_row _ _ 3 _ _ _ A13.out
  have e0 := frozen_of_row _ _ 0 _ _ A13.out
  have e1 := frozen_of_row _ _ 1 _ _ A13.out
  have e2 := frozen_of_row _ _ 2 _ _ A13.out
  have e3 := frozen_of_row _ _ 3 _ _ A13.out
  have hlt13 := block_lt B13.out
  have hlt14 := block_lt A13.out
  go_wp2
  have hR : ((cu.take 2).1.opTail 1 2 ks 2 2).2 = ⟨1, 2, KB, VB⟩ := by
    rw [HVB.out, HKB.out]
    rfl
  have GL := grownBy_set2 (grownBy_set2 (grownBy_set2 (grownBy_set (Below.refl _ w13) 0 (.int .i64 1) (c := w.heap.size)) 1 (.int .i64 2)) 2 (.string ⟨KB.toArray⟩)) 3 (.string ⟨VB.toArray⟩)
  refine bodyPost_ret (v := opV ⟨1, 2, KB, VB⟩) (by simp [results, Tryz.results144, go_sem, opV, p0, p1, p2, p3]) rfl ⟨by rw [hR], ?_, fun hfn => ?_, ?_⟩
  · have := hcu13.grown GL hcl (fun k n => by rw [A13.out]; simp)
    exact this.eq (by rw [HVB.out, HKB.out]; rfl)
  · have hcon := opTail_seen hfn
    rw [← HKB.out] at hcon
    have hc0 : cnt = 0 := by rw [Hcnt.out, HT2.out, hcon]; rfl
    have hmf := MapAt.old hm13 (GL.block r hm13.lt (fun e => by cases e; omega))
    rw [hc0, HT2.out] at hmf
    rw [hR]
    have e1 := putK_seen (2, KB) ks hcon
    unfold SeenAt
    rw [← e1]
    exact hmf
  · have x1 := ((Ext.refl (fun i => i = c ∨ i = r) w).alloc _).grow hg1 (.inl (.inl rfl))
    have x2 := (x1.past (((Below.refl _ w1).alloc (Nat.le_refl _) _).drew)).grow hg2 (.inl (.inl rfl))
    have x3 := (((x2.grow hg3 (.inl (.inl rfl))).grow hg4 (.inl (.inl rfl))).grow G4 (.inr (by omega))).past hb6
    have x4 := (((x3.grow hg7 (.inl (.inl rfl))).grow hG1 (.inl (.inr rfl))).grow hG2 (.inl (.inr rfl))).grow hg9 (.inl (.inl rfl))
    exact (((((x4.grow hg10 (.inl (.inl rfl))).grow G10 (.inr (by omega))).past hb12).grow hg13 (.inl (.inl rfl)))).grow GL (.inr (Nat.le_refl _))
end Go.Proofs.YtkkfmkhbdoeglaaGreatDoor
