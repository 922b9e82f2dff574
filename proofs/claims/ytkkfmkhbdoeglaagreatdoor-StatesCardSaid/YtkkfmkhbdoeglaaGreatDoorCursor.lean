/- Walks of package overlay's cursor: take, must, number, ended. No condition. -/
import Derived.Test.YtkkfmkhbdoeglaaGreatDoorCodecA
import Derived.Test.YtkkfmkhbdoeglaaGreatDoorHeap
import Derived.Deep.OwnRows
import Derived.BigRegion
namespace Go.Proofs.YtkkfmkhbdoeglaaGreatDoor
open Go.RowKit

/-- a cursor, in plain data -/
structure Cu where
  l : List UInt8
  at' : Nat
  to : Nat
  f : Option (Nat × Nat)
def Cu.take (c : Cu) (n : Nat) : Cu × List UInt8 :=
  match c.f with
  | some _ => (c, List.replicate n 0)
  | none => if c.l.length < c.to + n then ({ c with f := some (1, c.to) }, List.replicate n 0) else ({ c with at' := c.to, to := c.to + n }, (c.l.drop c.to).take n)
def Cu.must (c : Cu) (ok : Bool) (k : Nat) : Cu :=
  match c.f with
  | some _ => c
  | none => if ok then c else { c with f := some (k, c.at') }
def Cu.ended (c : Cu) : Cu :=
  match c.f with
  | some _ => c
  | none => if c.to < c.l.length then { c with f := some (2, c.to) } else c
/-- a cursor's field for its fault -/
def FaultP (w : World) (base : Nat) (fp : Option Addr) (f : Option (Nat × Nat)) : Prop :=
  match f with
  | none => fp = none
  | some (k, n) => ∃ g, fp = some ⟨g, 0, none⟩ ∧ base ≤ g ∧ w.heap[g]? = some (.cells #[.int .i64 k, .int .i64 n, .nilIface] 166 (0, 0))
/-- a block holds a cursor, and the blocks of its faults lie from base on -/
def CurAt (w : World) (base c : Nat) (cu : Cu) : Prop :=
  cu.to ≤ cu.l.length ∧ cu.at' ≤ cu.to ∧ cu.l.length ≤ maxB ∧ base ≤ c ∧
  ∃ v fp, w.heap[c]? = some (.cells #[v, .int .i64 cu.at', .int .i64 cu.to, .pointer fp] 211 (0, 0)) ∧ BytesAt w v cu.l ∧ (∀ b, v.ownBlock = some b → b < c) ∧ FaultP w base fp cu.f

theorem FaultP.old {w w' : World} {base : Nat} {fp : Option Addr} {f : Option (Nat × Nat)} (h : FaultP w base fp f) (hb : ∀ g, base ≤ g → (∃ k n, w.heap[g]? = some (.cells #[.int .i64 k, .int .i64 n, .nilIface] 166 (0, 0))) → w'.heap[g]? = w.heap[g]?) : FaultP w' base fp f := by
  cases f with
  | none => exact h
  | some x =>
    obtain ⟨g, h1, h2, h3⟩ := h
    exact ⟨g, h1, h2, by rw [hb g h2 ⟨_, _, h3⟩]; exact h3⟩
theorem CurAt.lt {w : World} {base c : Nat} {cu : Cu} (h : CurAt w base c cu) : c < w.heap.size := by
  obtain ⟨h1, h2, h3, h4, v, fp, h5, h6⟩ := h
  exact block_lt h5
theorem CurAt.old {w w' : World} {base c : Nat} {cu : Cu} (h : CurAt w base c cu) (hb : Below w.heap.size w w') : CurAt w' base c cu := by
  obtain ⟨h1, h2, h3, h4, v, fp, h5, h6, h7, h8⟩ := h
  refine ⟨h1, h2, h3, h4, v, fp, below_at hb (block_lt h5) h5, h6.below hb, h7, h8.old fun g _ ⟨k, n, hg⟩ => hb.block g (block_lt hg)⟩
/-- kept by whatever writes one other block, a later one, which is no fault -/
theorem CurAt.grown {w w' : World} {base c : Nat} {cu : Cu} {r : Nat} (h : CurAt w base c cu) (hb : w.grownBy w' (some r)) (hr : c < r) (hn : ∀ k n, w.heap[r]? ≠ some (.cells #[.int .i64 k, .int .i64 n, .nilIface] 166 (0, 0))) : CurAt w' base c cu := by
  obtain ⟨h1, h2, h3, h4, v, fp, h5, h6, h7, h8⟩ := h
  refine ⟨h1, h2, h3, h4, v, fp, ?_, SliceAt.grown h6 hb ?_, h7, h8.old fun g _ ⟨k, n, hg⟩ => ?_⟩
  · rw [hb.block c (block_lt h5) (fun e => by cases e; omega)]
    exact h5
  · intro b hv e
    cases e
    exact absurd (h7 _ hv) (by omega)
  · exact hb.block g (block_lt hg) (fun e => by cases e; exact hn k n hg)

theorem grownBy_set {w w1 : World} {c : Nat} (hb : Below w.heap.size w w1) (i : Nat) (v : Value) : w.grownBy (w1.setCell ⟨c, i, none⟩ v) (some c) :=
  ⟨hb.os, hb.tape, hb.output, by rw [size_setCell]; exact hb.size, fun k hk hne => (Below.heap_setCell w1 ⟨c, i, none⟩ v k (fun e => hne (by rw [e]))).trans (hb.block k hk)⟩
theorem grownBy_alloc {w w1 : World} {r : Option Nat} (hb : w.grownBy w1 r) (o : Obj) : w.grownBy (w1.alloc o) r :=
  ⟨hb.os, hb.tape, hb.output, Nat.le_trans hb.size (by simp), fun k hk hne => (heap_alloc_old _ _ (Nat.lt_of_lt_of_le hk hb.size)).trans (hb.block k hk hne)⟩
theorem cell_other {w : World} {c i j : Nat} {v x : Value} (h : w.cell? ⟨c, j, none⟩ = some x) (hij : i ≠ j) : (w.setCell ⟨c, i, none⟩ v).cell? ⟨c, j, none⟩ = some x := by
  rw [World.cell?_setCell_other (h := by simp)]
  exact h
theorem grownBy_set2 {w w1 : World} {c : Nat} (hb : w.grownBy w1 (some c)) (i : Nat) (v : Value) : w.grownBy (w1.setCell ⟨c, i, none⟩ v) (some c) :=
  ⟨hb.os, hb.tape, hb.output, by rw [size_setCell]; exact hb.size, fun k hk hne => (Below.heap_setCell w1 ⟨c, i, none⟩ v k (fun e => hne (by rw [e]))).trans (hb.block k hk hne)⟩
theorem grownBy_drewN {w w1 : World} {r : Option Nat} (hb : w.grownBy w1 r) (m : Nat) : w.grownBy (w1.drewN m) r := ⟨hb.os, hb.tape, hb.output, hb.size, hb.block⟩
theorem BytesAt.cap' {w : World} {a : Option Addr} {n cap cap' : Nat} {l : List UInt8} (h : BytesAt w (.slice a n cap) l) (hc : n ≤ cap') : BytesAt w (.slice a n cap') l := by
  obtain ⟨hl, a', cap2, he, hcc, hx⟩ := h
  cases he
  exact ⟨hl, a, cap', rfl, hc, hx⟩
theorem zeros_at (w : World) (n : Nat) (hn : n ≤ 100) : BytesAt (w.alloc (.cells (madeCells #[.int .u8 0] n) 5)) (.slice (some ⟨w.heap.size, 0, none⟩) n n) (List.replicate n 0) := by
  have hm : maxLen = 9223372036854775807 := rfl
  have hC : (madeCells #[Value.int .u8 0] n).size = n := by simp [madeCells]
  have h := OwnS.new w (madeCells #[.int .u8 0] n) 5 0 0 0 1 n n (Nat.zero_le _) (Nat.le_refl _) (by omega) (by omega) (.inl (by omega))
  have e : (madeCells #[Value.int .u8 0] n).toList.take (n * 1) = u8s (List.replicate n 0) := by
    rw [toList_madeCells_one, Nat.mul_one, List.take_of_length_le (by simp)]
    simp [u8s]
  rw [e] at h
  exact h.bytes
set_option maxRecDepth 100000 in
theorem take_fault (base c : Nat) (l : List UInt8) (at' to k p n : Nat) (w : World) (h : CurAt w base c ⟨l, at', to, some (k, p)⟩) (hn : n ≤ 100) :
    Calls Tryz.prog 121 #[.pointer (some ⟨c, 0, none⟩), .int .i64 n] w fun e w' => ∃ v, e = .returned v ∧ BytesAt w' v (List.replicate n 0) ∧ v.ownBlock ≠ some c ∧ Below w.heap.size w w' := by
  obtain ⟨h1, h2, h3, h4, v, fp, h5, h6, h7, g, rfl, h8⟩ := h
  have c0 : w.cell? ⟨c, 0, none⟩ = some (v) := cell_of_row w c 0 _ _ _ h5
  have c1 : w.cell? ⟨c, 1, none⟩ = some (.int .i64 at') := cell_of_row w c 1 _ _ _ h5
  have c2 : w.cell? ⟨c, 2, none⟩ = some (.int .i64 to) := cell_of_row w c 2 _ _ _ h5
  have c3 : w.cell? ⟨c, 3, none⟩ = some (.pointer (some ⟨g, 0, none⟩)) := cell_of_row w c 3 _ _ _ h5
  have hlt := block_lt h5
  clear h5
  have hmk : ∀ w, (Instr.makeSlice 59 (.int .i64 n) (.int .i64 n)).run Tryz.prog w = .ok (.slice (some ⟨w.heap.size, 0, none⟩) n n) (w.alloc (.cells (madeCells #[.int .u8 0] n) 5)) := fun w =>
    run_make_row' 59 5 (.int .u8 0) 1 Tryz.underlying59 (by kernel_rfl) rfl .i64 .i64 n (by omega) (by omega) w
  go_enter Tryz.func121, Tryz.ntmps121
  go_wp2
  go_quiet (fail)
  go_wp2
  go_ret
  exact ⟨_, rfl, zeros_at _ n (by omega), by simp [Value.ownBlock]; omega, ((Below.refl _ w).drewN _).alloc (Nat.le_refl _) _⟩
set_option maxRecDepth 100000 in
theorem take_short (base c : Nat) (l : List UInt8) (at' to n : Nat) (w : World) (h : CurAt w base c ⟨l, at', to, none⟩) (hb : base ≤ w.heap.size) (hn : n ≤ 100) (hs : l.length < to + n) :
    Calls Tryz.prog 121 #[.pointer (some ⟨c, 0, none⟩), .int .i64 n] w fun e w' => ∃ v, e = .returned v ∧ BytesAt w' v (List.replicate n 0) ∧ v.ownBlock ≠ some c ∧ CurAt w' base c ⟨l, at', to, some (1, to)⟩ ∧ w.grownBy w' (some c) := by
  obtain ⟨h1, h2, h3, h4, v, fp, h5, h6, h7', h8⟩ := h
  have h7 : v.ownBlock ≠ some c := fun e => Nat.lt_irrefl _ (h7' c e)
  obtain ⟨a, cap, rfl, hcap, -⟩ := h6.opened
  obtain rfl : fp = none := h8
  have c0 : w.cell? ⟨c, 0, none⟩ = some (.slice a l.length cap) := cell_of_row w c 0 _ _ _ h5
  have c1 : w.cell? ⟨c, 1, none⟩ = some (.int .i64 at') := cell_of_row w c 1 _ _ _ h5
  have c2 : w.cell? ⟨c, 2, none⟩ = some (.int .i64 to) := cell_of_row w c 2 _ _ _ h5
  have c3 : w.cell? ⟨c, 3, none⟩ = some (.pointer none) := cell_of_row w c 3 _ _ _ h5
  have f3 := frozen_of_row w c 3 _ _ h5
  have hlt := block_lt h5
  have H5 := Lib.hid h5
  simp only [] at h1 h2 h3
  unfold maxB at h3
  clear h5
  have hs1 : (l.length : Int) - to < n := by omega
  have hmk : ∀ w, (Instr.makeSlice 59 (.int .i64 n) (.int .i64 n)).run Tryz.prog w = .ok (.slice (some ⟨w.heap.size, 0, none⟩) n n) (w.alloc (.cells (madeCells #[.int .u8 0] n) 5)) := fun w =>
    run_make_row' 59 5 (.int .u8 0) 1 Tryz.underlying59 (by kernel_rfl) rfl .i64 .i64 n (by omega) (by omega) w
  go_enter Tryz.func121, Tryz.ntmps121
  go_wp2
  go_quiet (fail)
  go_wp2_with (go_at_call 85; refine (fault_any _ _ _).mono ?_; rintro e w1 ⟨rfl, hw1⟩; have hb1 : Below w.heap.size w w1 := (by rw [hw1]; exact ((Below.refl _ w).drewN _).alloc (Nat.le_refl _) _); have H6 := Lib.hid (below_at hb1 hlt H5.out); have g1 : w1.heap[w.heap.size]? = some (.cells #[.int .i64 1, .int .i64 to, .nilIface] 166 (0, 0)) := (by rw [hw1]; exact heap_new (w.drewN _) _); have G1 := Lib.hid g1; clear g1; have d3 : w1.cell? ⟨c, 3, none⟩ = some (.pointer none) := cell_of_row _ c 3 _ _ _ H6.out; have e3 : w1.frozen? ⟨c, 3, none⟩ = false := frozen_of_row _ c 3 _ _ H6.out; have hlt1 : c < w1.heap.size := block_lt H6.out; clear hw1)
  go_ret
  have hg1 := block_lt G1.out
  have hx := heap_setCell w1 c 3 (.pointer (some ⟨w.heap.size, 0, none⟩)) H6.out
  have hgr : w.grownBy (w1.setCell ⟨c, 3, none⟩ (.pointer (some ⟨w.heap.size, 0, none⟩))) (some c) := grownBy_set hb1 _ _
  refine ⟨_, rfl, by have z := zeros_at (w1.setCell ⟨c, 3, none⟩ (.pointer (some ⟨w.heap.size, 0, none⟩))) n hn; rw [size_setCell] at z; exact z, by simp [Value.ownBlock]; omega, ⟨h1, h2, by simp only []; unfold maxB; omega, h4, .slice a l.length cap, some ⟨w.heap.size, 0, none⟩, ?_, ?_, h7', w.heap.size, rfl, hb, ?_⟩, grownBy_alloc hgr _⟩
  · rw [heap_alloc_old _ _ (by rw [size_setCell]; exact hlt1), hx]; rfl
  · exact SliceAt.grown (h6) (grownBy_alloc hgr _) (fun b hv e => h7 (by rw [hv, e]))
  · rw [heap_alloc_old _ _ (by rw [size_setCell]; exact hg1)]
    exact (Below.heap_setCell w1 ⟨c, 3, none⟩ _ w.heap.size (Nat.ne_of_gt hlt)).trans G1.out
set_option maxRecDepth 100000 in
theorem take_good (base c : Nat) (l : List UInt8) (at' to n : Nat) (w : World) (h : CurAt w base c ⟨l, at', to, none⟩) (hn : n ≤ 100) (hn1 : 1 ≤ n) (hs : to + n ≤ l.length) :
    Calls Tryz.prog 121 #[.pointer (some ⟨c, 0, none⟩), .int .i64 n] w fun e w' => ∃ v, e = .returned v ∧ BytesAt w' v ((l.drop to).take n) ∧ v.ownBlock ≠ some c ∧ CurAt w' base c ⟨l, to, to + n, none⟩ ∧ w.grownBy w' (some c) := by
  obtain ⟨h1, h2, h3, h4, v, fp, h5, h6, h7', h8⟩ := h
  have h7 : v.ownBlock ≠ some c := fun e => Nat.lt_irrefl _ (h7' c e)
  obtain ⟨a, cap, rfl, hcap, hx⟩ := h6.opened
  obtain rfl : fp = none := h8
  obtain ⟨b, off, rfl, -⟩ := hx 0 (by simp only [] at hs ⊢; omega)
  have c0 : w.cell? ⟨c, 0, none⟩ = some (.slice (some ⟨b, off, none⟩) l.length cap) := cell_of_row w c 0 _ _ _ h5
  have c1 : w.cell? ⟨c, 1, none⟩ = some (.int .i64 at') := cell_of_row w c 1 _ _ _ h5
  have c2 : w.cell? ⟨c, 2, none⟩ = some (.int .i64 to) := cell_of_row w c 2 _ _ _ h5
  have c3 : w.cell? ⟨c, 3, none⟩ = some (.pointer none) := cell_of_row w c 3 _ _ _ h5
  have f1 := frozen_of_row w c 1 _ _ h5
  have f2 := frozen_of_row w c 2 _ _ h5
  have f3 := frozen_of_row w c 3 _ _ h5
  have hlt := block_lt h5
  have H5 := Lib.hid h5
  have HX := Lib.hid hx
  simp only [] at h1 h2 h3 hcap
  unfold maxB at h3
  clear h5 hx
  have k1 : (to : Int) ≤ to + n := by omega
  have k2 : (to : Int) + n ≤ cap := by omega
  have k3 : to + n ≤ cap := by omega
  have k4 : ¬ (to : Int) + n < 0 := by omega
  have hs1 : ¬ (l.length : Int) - to < n := by omega
  go_enter Tryz.func121, Tryz.ntmps121
  go_wp2
  go_quiet (fail)
  go_wp2
  go_region
  all_goals (go_wp2; go_quiet (fail); go_wp2)
  go_ret
  have e1 : to + n - to = n := by omega
  have hx2 := heap_setCell w c 1 (.int .i64 to) H5.out
  have hx3 := heap_setCell (w.setCell ⟨c, 1, none⟩ (.int .i64 to)) c 2 (.int .i64 (to + n : Nat)) hx2
  have hgr : ∀ k m, w.grownBy ((((w.drewN k).setCell ⟨c, 1, none⟩ (.int .i64 to)).setCell ⟨c, 2, none⟩ (.int .i64 (to + n : Nat))).drewN m) (some c) := fun k m =>
    grownBy_drewN (grownBy_set2 (grownBy_set ((Below.refl _ w).drewN k) 1 _) 2 _) m
  have h6' : ∀ k m, BytesAt ((((w.drewN k).setCell ⟨c, 1, none⟩ (.int .i64 to)).setCell ⟨c, 2, none⟩ (.int .i64 (to + n : Nat))).drewN m) (.slice (some ⟨b, off, none⟩) l.length cap) l := fun k m =>
    SliceAt.grown h6 (hgr k m) (fun b hv e => h7 (by rw [hv, e]))
  refine ⟨_, rfl, ?_, h7, ⟨hs, Nat.le_add_right _ _, by simp only []; unfold maxB; omega, h4, .slice (some ⟨b, off, none⟩) l.length cap, none, hx3, h6' _ _, h7', rfl⟩, hgr _ _⟩
  have h10 : (l.take (to + n)).drop to = (l.drop to).take n := by rw [List.drop_take, e1]
  rw [← h10]
  exact ((h6' _ _).sub to (to + n) (Nat.le_add_right _ _) hs).cap' (Nat.le_refl _)

theorem grownBy_of {w w' : World} (hb : Below w.heap.size w w') (r : Option Nat) : w.grownBy w' r := ⟨hb.os, hb.tape, hb.output, hb.size, fun k hk _ => hb.block k hk⟩
theorem take_any (base c : Nat) (cu : Cu) (n : Nat) (w : World) (h : CurAt w base c cu) (hb : base ≤ w.heap.size) (hn : n ≤ 100) (hn1 : 1 ≤ n) :
    Calls Tryz.prog 121 #[.pointer (some ⟨c, 0, none⟩), .int .i64 n] w fun e w' => ∃ v, e = .returned v ∧ BytesAt w' v (cu.take n).2 ∧ v.ownBlock ≠ some c ∧ CurAt w' base c (cu.take n).1 ∧ w.grownBy w' (some c) := by
  obtain ⟨l, at', to, f⟩ := cu
  cases f with
  | some x =>
    obtain ⟨k, p⟩ := x
    exact (take_fault base c l at' to k p n w h hn).mono fun e w' ⟨v, h1, h2, h3, h4⟩ => ⟨v, h1, h2, h3, h.old h4, grownBy_of h4 _⟩
  | none =>
    by_cases hs : l.length < to + n
    · simp only [Cu.take, if_pos hs]
      exact take_short base c l at' to n w h hb hn hs
    · simp only [Cu.take, if_neg hs]
      exact take_good base c l at' to n w h hn hn1 (by omega)

/-- the last step of what writes a fault into a cursor -/
theorem CurAt.faulted {w w1 : World} {base c : Nat} {l : List UInt8} {at' to : Nat} (h : CurAt w base c ⟨l, at', to, none⟩) (hb : base ≤ w.heap.size) (k n : Nat) (m : Nat)
    (hw : w1 = (w.drewN m).alloc (.cells #[.int .i64 k, .int .i64 n, .nilIface] 166)) :
    CurAt (w1.setCell ⟨c, 3, none⟩ (.pointer (some ⟨w.heap.size, 0, none⟩))) base c ⟨l, at', to, some (k, n)⟩ ∧ w.grownBy (w1.setCell ⟨c, 3, none⟩ (.pointer (some ⟨w.heap.size, 0, none⟩))) (some c) := by
  obtain ⟨h1, h2, h3, h4, v, fp, h5, h6, h7', h8⟩ := h
  have h7 : v.ownBlock ≠ some c := fun e => Nat.lt_irrefl _ (h7' c e)
  have hlt := block_lt h5
  have hb1 : Below w.heap.size w w1 := by rw [hw]; exact ((Below.refl _ w).drewN _).alloc (Nat.le_refl _) _
  have g1 : w1.heap[w.heap.size]? = some (.cells #[.int .i64 k, .int .i64 n, .nilIface] 166 (0, 0)) := by rw [hw]; exact heap_new (w.drewN _) _
  have hgr := grownBy_set hb1 3 (.pointer (some ⟨w.heap.size, 0, none⟩)) (c := c)
  refine ⟨⟨h1, h2, h3, h4, v, some ⟨w.heap.size, 0, none⟩, heap_setCell w1 c 3 _ (below_at hb1 hlt h5), SliceAt.grown h6 hgr (fun b hv e => h7 (by rw [hv, e])), h7', w.heap.size, rfl, hb, ?_⟩, hgr⟩
  exact (Below.heap_setCell w1 ⟨c, 3, none⟩ _ w.heap.size (Nat.ne_of_gt hlt)).trans g1
set_option maxRecDepth 100000 in
theorem must_same (base c : Nat) (cu : Cu) (ok : Bool) (k : Nat) (w : World) (h : CurAt w base c cu) (hf : cu.f ≠ none ∨ ok = true) :
    Calls Tryz.prog 142 #[.pointer (some ⟨c, 0, none⟩), .bool ok, .int .i64 k] w fun e w' => e = .returned (.tuple #[]) ∧ CurAt w' base c (cu.must ok k) ∧ w.grownBy w' (some c) := by
  have hm : cu.must ok k = cu := by
    unfold Cu.must
    rcases hf with hf | hf
    · cases hc : cu.f with
      | none => exact absurd hc hf
      | some x => rfl
    · cases hc : cu.f with
      | none => simp [hf]
      | some x => rfl
  rw [hm]
  have H := Lib.hid h
  obtain ⟨h1, h2, h3, h4, v, fp, h5, h6, h7, h8⟩ := h
  have c3 : w.cell? ⟨c, 3, none⟩ = some (.pointer fp) := cell_of_row w c 3 _ _ _ h5
  have hlt := block_lt h5
  clear h5 h6 hm
  by_cases hok : ok = true
  · subst hok
    by_cases hc : fp = none
    · subst hc
      go_enter Tryz.func142, Tryz.ntmps142
      go_wp2
      go_end0
      exact ⟨rfl, H.out, grownBy_of (Below.refl _ w) _⟩
    · obtain ⟨a, rfl⟩ := Option.ne_none_iff_exists'.1 hc
      go_enter Tryz.func142, Tryz.ntmps142
      go_wp2
      go_end0
      exact ⟨rfl, H.out, grownBy_of (Below.refl _ w) _⟩
  · have hf' : cu.f ≠ none := hf.resolve_right hok
    obtain ⟨x, hx⟩ := Option.ne_none_iff_exists'.1 hf'
    rw [hx] at h8
    obtain ⟨g, rfl, -, -⟩ := h8
    clear hf hf' hx
    go_enter Tryz.func142, Tryz.ntmps142
    go_wp2
    go_end0
    exact ⟨rfl, H.out, grownBy_of (Below.refl _ w) _⟩
set_option maxRecDepth 100000 in
theorem must_fault (base c : Nat) (l : List UInt8) (at' to k : Nat) (w : World) (h : CurAt w base c ⟨l, at', to, none⟩) (hb : base ≤ w.heap.size) :
    Calls Tryz.prog 142 #[.pointer (some ⟨c, 0, none⟩), .bool false, .int .i64 k] w fun e w' => e = .returned (.tuple #[]) ∧ CurAt w' base c ⟨l, at', to, some (k, at')⟩ ∧ w.grownBy w' (some c) := by
  have H := Lib.hid h
  obtain ⟨h1, h2, h3, h4, v, fp, h5, h6, h7, h8⟩ := h
  obtain rfl : fp = none := h8
  have c3 : w.cell? ⟨c, 3, none⟩ = some (.pointer none) := cell_of_row w c 3 _ _ _ h5
  have c1 : w.cell? ⟨c, 1, none⟩ = some (.int .i64 at') := cell_of_row w c 1 _ _ _ h5
  have H5 := Lib.hid h5
  have hlt := block_lt h5
  clear h5 h6
  go_enter Tryz.func142, Tryz.ntmps142
  go_wp2_with (go_at_call 85; refine (fault_any _ _ _).mono ?_; rintro e w1 ⟨rfl, hw1⟩; have HW := Lib.hid hw1; have hb1 : Below w.heap.size w w1 := (by rw [hw1]; exact (Below.refl _ w).alloc (Nat.le_refl _) _); have d3 : w1.cell? ⟨c, 3, none⟩ = some (.pointer none) := cell_of_row _ c 3 _ _ _ (below_at hb1 hlt H5.out); have e3 : w1.frozen? ⟨c, 3, none⟩ = false := frozen_of_row _ c 3 _ _ (below_at hb1 hlt H5.out); have hlt1 : c < w1.heap.size := block_lt (below_at hb1 hlt H5.out); clear hw1)
  go_end0
  exact ⟨rfl, H.out.faulted hb k at' 0 HW.out⟩
theorem must_any (base c : Nat) (cu : Cu) (ok : Bool) (k : Nat) (w : World) (h : CurAt w base c cu) (hb : base ≤ w.heap.size) :
    Calls Tryz.prog 142 #[.pointer (some ⟨c, 0, none⟩), .bool ok, .int .i64 k] w fun e w' => e = .returned (.tuple #[]) ∧ CurAt w' base c (cu.must ok k) ∧ w.grownBy w' (some c) := by
  by_cases hf : cu.f ≠ none ∨ ok = true
  · exact must_same base c cu ok k w h hf
  · obtain ⟨l, at', to, f⟩ := cu
    have h1 : f = none := by simpa using (not_or.1 hf).1
    have h2 : ok = false := by simpa using (not_or.1 hf).2
    subst h1 h2
    exact must_fault base c l at' to k w h hb
end Go.Proofs.YtkkfmkhbdoeglaaGreatDoor

/- Walks of package overlay's cursor: ended, number. No condition. -/
namespace Go.Proofs.YtkkfmkhbdoeglaaGreatDoor
open Go.RowKit

/-- the number that bytes are, the highest first -/
def numB (l : List UInt8) : Nat := l.foldl (fun v x => v * 256 + x.toNat) 0
theorem numB_snoc (l : List UInt8) (x : UInt8) : numB (l ++ [x]) = numB l * 256 + x.toNat := by simp [numB]
theorem numB_take (l : List UInt8) (k : Nat) (h : k < l.length) : numB (l.take (k + 1)) = numB (l.take k) * 256 + l[k].toNat := by
  rw [List.take_succ_eq_append_getElem h, numB_snoc]
theorem numB_lt : ∀ (k : Nat) (l : List UInt8), k ≤ l.length → numB (l.take k) < 256 ^ k
  | 0, l, _ => by simp [numB]
  | k + 1, l, h => by
    have ih := numB_lt k l (by omega)
    have hb := (l[k]'(by omega)).toNat_lt
    rw [numB_take l k (by omega), Nat.pow_succ]
    omega

set_option maxRecDepth 100000 in
theorem ended_same (base c : Nat) (cu : Cu) (w : World) (h : CurAt w base c cu) (hf : cu.f ≠ none ∨ ¬ cu.to < cu.l.length) :
    Calls Tryz.prog 143 #[.pointer (some ⟨c, 0, none⟩)] w fun e w' => e = .returned (.tuple #[]) ∧ CurAt w' base c cu.ended ∧ w.grownBy w' (some c) := by
  have hm : cu.ended = cu := by
    unfold Cu.ended
    cases hc : cu.f with
    | some x => rfl
    | none => simp [hf.resolve_left (fun k => k hc)]
  rw [hm]
  have H := Lib.hid h
  obtain ⟨h1, h2, h3, h4, v, fp, h5, h6, h7, h8⟩ := h
  obtain ⟨a, cap, rfl, hcap, -⟩ := h6.opened
  have c0 : w.cell? ⟨c, 0, none⟩ = some (.slice a cu.l.length cap) := cell_of_row w c 0 _ _ _ h5
  have c2 : w.cell? ⟨c, 2, none⟩ = some (.int .i64 cu.to) := cell_of_row w c 2 _ _ _ h5
  have c3 : w.cell? ⟨c, 3, none⟩ = some (.pointer fp) := cell_of_row w c 3 _ _ _ h5
  have hlt := block_lt h5
  clear h5 h6 hm
  cases hfp : fp with
  | some p =>
    subst hfp
    go_enter Tryz.func143, Tryz.ntmps143
    go_wp2
    go_quiet (fail)
    go_wp2
    go_end0
    exact ⟨rfl, H.out.old ((Below.refl _ w).drewN _), grownBy_of ((Below.refl _ w).drewN _) _⟩
  | none =>
    subst hfp
    have hf' : cu.f = none := by
      cases hc : cu.f with
      | none => rfl
      | some x => rw [hc] at h8; obtain ⟨g, hg, _⟩ := h8; cases hg
    have hle : ¬ (cu.to : Int) < cu.l.length := by have := hf.resolve_left (fun k => k hf'); omega
    go_enter Tryz.func143, Tryz.ntmps143
    go_wp2
    go_quiet (fail)
    go_wp2
    go_end0
    exact ⟨rfl, H.out.old ((Below.refl _ w).drewN _), grownBy_of ((Below.refl _ w).drewN _) _⟩
set_option maxRecDepth 100000 in
theorem ended_fault (base c : Nat) (l : List UInt8) (at' to : Nat) (w : World) (h : CurAt w base c ⟨l, at', to, none⟩) (hb : base ≤ w.heap.size) (hs : to < l.length) :
    Calls Tryz.prog 143 #[.pointer (some ⟨c, 0, none⟩)] w fun e w' => e = .returned (.tuple #[]) ∧ CurAt w' base c ⟨l, at', to, some (2, to)⟩ ∧ w.grownBy w' (some c) := by
  have H := Lib.hid h
  obtain ⟨h1, h2, h3, h4, v, fp, h5, h6, h7, h8⟩ := h
  obtain ⟨a, cap, rfl, hcap, -⟩ := h6.opened
  obtain rfl : fp = none := h8
  have c0 : w.cell? ⟨c, 0, none⟩ = some (.slice a l.length cap) := cell_of_row w c 0 _ _ _ h5
  have c2 : w.cell? ⟨c, 2, none⟩ = some (.int .i64 to) := cell_of_row w c 2 _ _ _ h5
  have c3 : w.cell? ⟨c, 3, none⟩ = some (.pointer none) := cell_of_row w c 3 _ _ _ h5
  have H5 := Lib.hid h5
  have hlt := block_lt h5
  have hs1 : (to : Int) < l.length := by omega
  clear h5 h6
  go_enter Tryz.func143, Tryz.ntmps143
  go_wp2
  go_quiet (fail)
  go_wp2_with (go_at_call 85; refine (fault_any _ _ _).mono ?_; rintro e w1 ⟨rfl, hw1⟩; have HW := Lib.hid hw1; have hb1 : Below w.heap.size w w1 := (by rw [hw1]; exact ((Below.refl _ w).drewN _).alloc (Nat.le_refl _) _); have d3 : w1.cell? ⟨c, 3, none⟩ = some (.pointer none) := cell_of_row _ c 3 _ _ _ (below_at hb1 hlt H5.out); have e3 : w1.frozen? ⟨c, 3, none⟩ = false := frozen_of_row _ c 3 _ _ (below_at hb1 hlt H5.out); have hlt1 : c < w1.heap.size := block_lt (below_at hb1 hlt H5.out); clear hw1)
  go_end0
  exact ⟨rfl, H.out.faulted hb 2 to _ HW.out⟩
theorem ended_any (base c : Nat) (cu : Cu) (w : World) (h : CurAt w base c cu) (hb : base ≤ w.heap.size) :
    Calls Tryz.prog 143 #[.pointer (some ⟨c, 0, none⟩)] w fun e w' => e = .returned (.tuple #[]) ∧ CurAt w' base c cu.ended ∧ w.grownBy w' (some c) := by
  by_cases hf : cu.f ≠ none ∨ ¬ cu.to < cu.l.length
  · exact ended_same base c cu w h hf
  · obtain ⟨l, at', to, f⟩ := cu
    have h1 : f = none := by simpa using (not_or.1 hf).1
    have h2 : to < l.length := Decidable.not_not.1 (not_or.1 hf).2
    subst h1
    simp only [Cu.ended, if_pos h2]
    exact ended_fault base c l at' to w h hb h2

theorem Cu.take_length (cu : Cu) (n : Nat) : (cu.take n).2.length = n := by
  unfold Cu.take
  cases cu.f with
  | some x => simp
  | none =>
    by_cases h : cu.l.length < cu.to + n
    · simp [h]
    · simp [h]; omega
set_option maxRecDepth 100000 in
theorem curNumber_any (base c : Nat) (cu : Cu) (w : World) (h : CurAt w base c cu) (hb : base ≤ w.heap.size) :
    Calls Tryz.prog 120 #[.pointer (some ⟨c, 0, none⟩)] w fun e w' => e = .returned (.int .u64 (numB (cu.take 8).2)) ∧ CurAt w' base c (cu.take 8).1 ∧ w.grownBy w' (some c) := by
  obtain ⟨l, hl⟩ : ∃ l, l = (cu.take 8).2 := ⟨_, rfl⟩
  have hlen : l.length = 8 := by rw [hl, Cu.take_length]
  have HL := Lib.hid hl
  rw [← hl]
  clear hl
  go_enter Tryz.func120, Tryz.ntmps120
  go_wp2_with (go_at_call 121; refine (take_any base c cu 8 _ h hb (by decide) (by decide)).mono ?_; rintro e w1 ⟨v, rfl, hv, hvc, hcu, hgr⟩; rw [← HL.out] at hv; obtain ⟨a, cap, rfl, hcap, hx⟩ := hv.opened; have HX := Lib.hid hx; clear hx hv hvc)
  go_loop [3, 9] (fun c i => ∃ k : Nat, k ≤ 8 ∧ i = .int .i64 k ∧ c = .int .u64 (numB (l.take k))) (fun _ i => 8 - (intOf i).toNat)
  case atStart => exact ⟨0, by omega, rfl, by simp [numB]⟩
  case round =>
    obtain ⟨k, hk, rfl, rfl⟩ := hrel
    by_cases h8 : k < 8
    · have hlt := numB_lt k l (by omega)
      have hle : numB (l.take k) < 256 ^ 7 := Nat.lt_of_lt_of_le hlt (Nat.pow_le_pow_right (by decide) (by omega))
      have H := Lib.hid (numB_take l k (by omega))
      obtain ⟨b, off, rfl, hcell⟩ := HX.out k (by omega)
      have hxb := (l[k]'(by omega)).toNat_lt
      generalize numB (l.take k) = v at *
      clear hlt
      have hv : v < 72057594037927936 := hle
      clear hle
      go_wp2
      go_round
      case rel =>
        refine ⟨k + 1, by omega, by go_num, ?_⟩
        have j1 : v * 256 ||| (l[k]'(by omega)).toNat = v * 256 + (l[k]'(by omega)).toNat := nat_join 8 _ _ (by omega) (by omega)
        rw [show ((v : Int) * 256) = ((v * 256 : Nat) : Int) by omega, u64_or_nat _ _ (by omega) (by omega), j1, H.out]
      case measure => simp [intOf]; omega
    · obtain rfl : k = 8 := by omega
      rw [List.take_of_length_le (by omega)]
      go_wp2
      go_ret
      exact ⟨rfl, hcu, hgr⟩
end Go.Proofs.YtkkfmkhbdoeglaaGreatDoor
