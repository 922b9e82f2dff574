/- The walk of package overlay's cursor.op. No condition. -/
import Derived.Test.YtkkfmkhbdoeglaaGreatDoorCursor
import Derived.Test.YtkkfmkhbdoeglaaGreatDoorMap
namespace Go.Proofs.YtkkfmkhbdoeglaaGreatDoor
open Go.RowKit

/-- a change, in plain data -/
structure OpB where
  kind : Int
  table : Int
  key : List UInt8
  val : List UInt8
deriving DecidableEq
def opV (o : OpB) : Value := .agg #[.int .i64 o.kind, .int .i64 o.table, .string ⟨o.key.toArray⟩, .string ⟨o.val.toArray⟩]
/-- a map tells which keys were seen, each once -/
def SeenAt (w : World) (r : Nat) (ks : List K) : Prop := MapAt w r (ks.map fun k => (k, .int .i64 1))

theorem grownBy_then {w w1 w2 : World} {c : Option Nat} (h : w.grownBy w1 c) (k : w1.grownBy w2 c) : w.grownBy w2 c :=
  ⟨k.os.trans h.os, k.tape.trans h.tape, k.output.trans h.output, Nat.le_trans h.size k.size, fun i hi hne => (k.block i (Nat.lt_of_lt_of_le hi h.size) hne).trans (h.block i hi hne)⟩
theorem grownBy_past {w w1 w2 : World} {c : Option Nat} {r : Nat} (h : w.grownBy w1 c) (k : w1.grownBy w2 (some r)) (hr : w.heap.size ≤ r) : w.grownBy w2 c :=
  ⟨k.os.trans h.os, k.tape.trans h.tape, k.output.trans h.output, Nat.le_trans h.size k.size, fun i hi hne => (k.block i (Nat.lt_of_lt_of_le hi h.size) (fun e => by cases e; omega)).trans (h.block i hi hne)⟩
theorem CurAt.faultCell {w : World} {base c : Nat} {cu : Cu} (h : CurAt w base c cu) (hf : cu.f ≠ none) : ∃ g, w.cell? ⟨c, 3, none⟩ = some (.pointer (some ⟨g, 0, none⟩)) := by
  obtain ⟨h1, h2, h3, h4, v, fp, h5, h6, h7, h8⟩ := h
  obtain ⟨x, hx⟩ := Option.ne_none_iff_exists'.1 hf
  rw [hx] at h8
  obtain ⟨g, rfl, -, -⟩ := h8
  exact ⟨g, cell_of_row w c 3 _ _ _ h5⟩
theorem CurAt.noFault {w : World} {base c : Nat} {cu : Cu} (h : CurAt w base c cu) (hf : cu.f = none) : w.cell? ⟨c, 3, none⟩ = some (.pointer none) := by
  obtain ⟨h1, h2, h3, h4, v, fp, h5, h6, h7, h8⟩ := h
  rw [hf] at h8
  obtain rfl : fp = none := h8
  exact cell_of_row w c 3 _ _ _ h5
set_option maxRecDepth 100000 in
set_option maxHeartbeats 1000000 in
theorem op_bad (base c r : Nat) (cu : Cu) (x y : UInt8) (ok1 ok2 : Bool) (w : World) (h : CurAt w base c cu) (hb : base ≤ w.heap.size) (hh : (cu.take 2).2 = [x, y])
    (hk : (x.toNat < 1 ∧ ok1 = false) ∨ (1 ≤ x.toNat ∧ x.toNat < 2 ∧ ok1 = true) ∨ (2 ≤ x.toNat ∧ x.toNat < 3 ∧ ok1 = true) ∨ (3 ≤ x.toNat ∧ ok1 = false)) (hy3 : (y.toNat < 3 ∧ ok2 = true) ∨ (3 ≤ y.toNat ∧ ok2 = false))
    (hf : (((cu.take 2).1.must ok1 6).must ok2 6).f ≠ none) :
    Calls Tryz.prog 144 #[.pointer (some ⟨c, 0, none⟩), .map (some r)] w fun e w' => e = .returned (opV ⟨x.toNat, y.toNat, [], []⟩) ∧ CurAt w' base c (((cu.take 2).1.must ok1 6).must ok2 6) ∧ w.grownBy w' (some c) := by
  have hx := x.toNat_lt
  have hy := y.toNat_lt
  have H0 := Lib.hid (heap_new w (.cells #[.int .i64 0, .int .i64 0, .string ⟨#[]⟩, .string ⟨#[]⟩] 96))
  have hcl := h.lt
  have HF := Lib.hid hf
  clear hf
  have hd : decide ((y.toNat : Int) < 3) = ok2 := by
    rcases hy3 with ⟨h, rfl⟩ | ⟨h, rfl⟩
    · exact decide_eq_true (by omega)
    · exact decide_eq_false (by omega)
  have HD := Lib.hid hd
  have ho : ((x.toNat : Int) == 1 || (x.toNat : Int) == 2) = ok1 := by
    rcases hk with ⟨h, rfl⟩ | ⟨h, h', rfl⟩ | ⟨h, h', rfl⟩ | ⟨h, rfl⟩
    · rw [Bool.or_eq_false_iff, beq_eq_false_iff_ne, beq_eq_false_iff_ne]; omega
    · rw [Bool.or_eq_true, beq_iff_eq, beq_iff_eq]; omega
    · rw [Bool.or_eq_true, beq_iff_eq, beq_iff_eq]; omega
    · rw [Bool.or_eq_false_iff, beq_eq_false_iff_ne, beq_eq_false_iff_ne]; omega
  have HO := Lib.hid ho
  clear hd hy3 ho
  have hsz : w.heap.size < (w.alloc (.cells #[.int .i64 0, .int .i64 0, .string ⟨#[]⟩, .string ⟨#[]⟩] 96)).heap.size := by simp
  go_enter Tryz.func144, Tryz.ntmps144
  go_wp2_with fail
  refine (take_any base c cu 2 _ (h.old ((Below.refl _ w).alloc (Nat.le_refl _) _)) (by simp; omega) (by decide) (by decide)).mono ?_
  rintro e w1 ⟨v, rfl, hv, -, hcu, hg1⟩
  rw [hh] at hv
  obtain ⟨a, cap, rfl, hcap, hxx⟩ := hv.opened
  obtain ⟨b, off, rfl, hc0⟩ := hxx 0 (by simp)
  obtain ⟨b', off', he, hc1⟩ := hxx 1 (by simp)
  cases he
  simp only [Nat.add_zero, List.getElem_cons_zero, List.getElem_cons_succ] at hc0 hc1
  have hlt1 := cell_lt hc0
  clear hxx hv
  simp only [List.length_cons, List.length_nil] at hcap
  have hs1 := hg1.size
  have H1 := Lib.hid ((hg1.block w.heap.size hsz (fun e => by cases e; omega)).trans H0.out)
  have hcl1 := hcu.lt
  go_wp2
  go_region
  have ht : ((((x.toNat : Int) == 1) = false ∧ ((x.toNat : Int) == 2) = false ∧ ok1 = false) ∨ (((x.toNat : Int) == 1) = true ∧ ok1 = true) ∨ (((x.toNat : Int) == 1) = false ∧ ((x.toNat : Int) == 2) = true ∧ ok1 = true)) := by
    rw [← HO.out]
    cases h1 : ((x.toNat : Int) == 1) <;> cases h2 : ((x.toNat : Int) == 2) <;> simp
  clear hk
  rcases ht with ⟨t1, t2, rfl⟩ | ⟨t1, rfl⟩ | ⟨t1, t2, rfl⟩
  all_goals
    have H2 := Lib.hid (heap_new w1 (.cells #[.int .i64 x.toNat, .int .i64 y.toNat, .string ⟨#[]⟩, .string ⟨#[]⟩] 96))
    go_wp2_with fail
    try rw [HO.out]
    refine (must_any base c _ _ 6 _ (hcu.old (((Below.refl _ w1).alloc (Nat.le_refl _) _).drew)) (by simp at hs1 ⊢; omega)).mono ?_
    rintro e w2 ⟨rfl, hcu2, hg2⟩
    have H3 := Lib.hid ((hg2.block w1.heap.size (by simp) (fun e => by cases e; omega)).trans H2.out)
    have H4 := Lib.hid ((hg2.block w.heap.size (by simp at hs1 ⊢; omega) (fun e => by cases e; omega)).trans (heap_old w1 _ H1.out))
    have d0 : w2.cell? ⟨w1.heap.size, 0, none⟩ = some (.int .i64 x.toNat) := cell_of_row _ _ 0 _ _ _ H3.out
    have d1 : w2.cell? ⟨w1.heap.size, 1, none⟩ = some (.int .i64 y.toNat) := cell_of_row _ _ 1 _ _ _ H3.out
    have hlt2 := block_lt H3.out
    have hs2 := hg2.size
    go_wp2_with fail
    try rw [HD.out]
    refine (must_any base c _ _ 6 _ hcu2 (by simp at hs1 hs2 ⊢; omega)).mono ?_
    rintro e w3 ⟨rfl, hcu3, hg3⟩
    have H5 := Lib.hid ((hg3.block w1.heap.size (block_lt H3.out) (fun e => by cases e; omega)).trans H3.out)
    have H6 := Lib.hid ((hg3.block w.heap.size (block_lt H4.out) (fun e => by cases e; omega)).trans H4.out)
    have q0 : w3.cell? ⟨w1.heap.size, 0, none⟩ = some (.int .i64 x.toNat) := cell_of_row _ _ 0 _ _ _ H5.out
    have q1 : w3.cell? ⟨w1.heap.size, 1, none⟩ = some (.int .i64 y.toNat) := cell_of_row _ _ 1 _ _ _ H5.out
    have q2 : w3.cell? ⟨w1.heap.size, 2, none⟩ = some (.string ⟨#[]⟩) := cell_of_row _ _ 2 _ _ _ H5.out
    have q3 : w3.cell? ⟨w1.heap.size, 3, none⟩ = some (.string ⟨#[]⟩) := cell_of_row _ _ 3 _ _ _ H5.out
    have p0 : w3.cell? ⟨w.heap.size, 0, none⟩ = some (.int .i64 0) := cell_of_row _ _ 0 _ _ _ H6.out
    have p1 : w3.cell? ⟨w.heap.size, 1, none⟩ = some (.int .i64 0) := cell_of_row _ _ 1 _ _ _ H6.out
    have p2 : w3.cell? ⟨w.heap.size, 2, none⟩ = some (.string ⟨#[]⟩) := cell_of_row _ _ 2 _ _ _ H6.out
    have p3 : w3.cell? ⟨w.heap.size, 3, none⟩ = some (.string ⟨#[]⟩) := cell_of_row _ _ 3 _ _ _ H6.out
    have e0 := frozen_of_row _ _ 0 _ _ H6.out
    have e1 := frozen_of_row _ _ 1 _ _ H6.out
    have e2 := frozen_of_row _ _ 2 _ _ H6.out
    have e3 := frozen_of_row _ _ 3 _ _ H6.out
    have hlt3 := block_lt H5.out
    have hlt4 := block_lt H6.out
    obtain ⟨g, hc3⟩ := hcu3.faultCell HF.out
    have hlt5 := hcu3.lt
    go_wp2
    refine bodyPost_ret (v := opV ⟨x.toNat, y.toNat, [], []⟩) (by simp [results, Tryz.results144, go_sem, opV, p0, p1, p2, p3]) rfl ⟨rfl, ?_, ?_⟩
    · exact hcu3.grown (r := w.heap.size) (grownBy_set2 (grownBy_set2 (grownBy_set2 (grownBy_set (Below.refl _ w3) 0 _) 1 _) 2 _) 3 _) hcl (fun k n => by rw [H6.out]; simp)
    · have g1 := grownBy_then (grownBy_of ((Below.refl _ w).alloc (Nat.le_refl _) _) (some c)) hg1
      have g2 := fun o => grownBy_then g1 (grownBy_of (((Below.refl _ w1).alloc (Nat.le_refl _) o).drew) (some c))
      exact grownBy_past (grownBy_then (grownBy_then (g2 _) hg2) hg3) (grownBy_set2 (grownBy_set2 (grownBy_set2 (grownBy_set (Below.refl _ w3) 0 _) 1 _) 2 _) 3 _) (Nat.le_refl _)
end Go.Proofs.YtkkfmkhbdoeglaaGreatDoor
