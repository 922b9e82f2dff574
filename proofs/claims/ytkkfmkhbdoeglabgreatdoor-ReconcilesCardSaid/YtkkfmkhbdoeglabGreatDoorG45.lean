/- A part of what is proved here: lemmas and contracts of single functions. No condition but those that each names. -/
import Derived.Test.YtkkfmkhbdoeglabGreatDoorG24
import Derived.Test.YtkkfmkhbdoeglabGreatDoorG26
import Derived.Test.YtkkfmkhbdoeglabGreatDoorG42
import Derived.Test.YtkkfmkhbdoeglabGreatDoorG43
import Derived.Test.YtkkfmkhbdoeglabGreatDoorG44
namespace Go.Proofs.YtkkfmkhbdoeglabGreatDoor
open Go.RowKit Go.Shelf
/-- a host's datapath, all of it from base on -/
theorem DpAt.raise {w : World} {base h : Nat} {x : HV} {d : DpS} (hd : DpAt w 0 h x d) (h1 : base ≤ h) (h2 : base ≤ x.r) (h3 : ∀ k, x.log.ownBlock = some k → base ≤ k) : DpAt w base h x d := by
  refine ⟨hd.row, hd.left, hd.dead, hd.room, hd.tab, ?_, hd.ltyp, ⟨h1, h2⟩, hd.lb⟩
  obtain ⟨hl, h0 | ⟨g, off, cap, e, -, r⟩⟩ := hd.own
  · exact ⟨hl, .inl h0⟩
  · exact ⟨hl, .inr ⟨g, off, cap, e, h3 g (by rw [e]; rfl), r⟩⟩
theorem start_snoc (d : DpS) (l : List E) (k : Nat) (hk : k < l.length) : d.run (putOps (l.take (k + 1))) = (d.run (putOps (l.take k))).put l[k].1 l[k].2 := by
  have e : putOps (l.take (k + 1)) = putOps (l.take k) ++ [(l[k].1, some l[k].2)] := by
    unfold putOps
    rw [List.take_succ_eq_append_getElem hk, List.map_append]
    rfl
  rw [e, DpS.run_snoc]
  rfl
/-- the host of Reconciled, and what else it holds on to: the fault's cell, the datapath's -/
structure RecAt (w : World) (h D : Nat) (x : HV) (d : DpS) (wr : World) : Prop where
  dp : ∃ lv, DpAt wr (w.heap.size + 1) h { x with left := d.left, dead := d.dead, log := lv } d
  old : Below w.heap.size w wr
  box : wr.heap[D]? = some (.cells #[.pointer (some ⟨h, 0, none⟩)] 116 (0, 0))
  res : wr.heap[w.heap.size]? = some (.cells #[.int .i64 0, .int .i64 0, .int .i64 0] 34 (0, 0))
theorem RecAt.below {w wr w' : World} {h D : Nat} {x : HV} {d : DpS} (hR : RecAt w h D x d wr) (hb : Below wr.heap.size wr w') : RecAt w h D x d w' := by
  obtain ⟨⟨lv, h1⟩, h2, h3, h5⟩ := hR
  exact ⟨⟨lv, h1.below hb⟩, h2.trans (hb.mono h2.size), (hb.block _ (block_lt h3)).trans h3, (hb.block _ (block_lt h5)).trans h5⟩
theorem RecAt.ext {w wr w' : World} {h D : Nat} {x : HV} {d d' : DpS} {lv lv' : Value} (h1 : DpAt wr (w.heap.size + 1) h { x with left := d.left, dead := d.dead, log := lv } d) (h2 : Below w.heap.size w wr) (h3 : wr.heap[D]? = some (.cells #[.pointer (some ⟨h, 0, none⟩)] 116 (0, 0))) (h5 : wr.heap[w.heap.size]? = some (.cells #[.int .i64 0, .int .i64 0, .int .i64 0] 34 (0, 0)))
    (hd : DpAt w' (w.heap.size + 1) h { x with left := d'.left, dead := d'.dead, log := lv' } d') (hx : Ext (fun i => i = h ∨ i = x.r ∨ lv.ownBlock = some i) wr w') : RecAt w h D x d' w' := by
  have ho : ∀ i, lv.ownBlock = some i → w.heap.size + 1 ≤ i := fun i e => h1.own.ownBlock_ge i e
  refine ⟨⟨lv', hd⟩, h2.trans (hx.below h2.size fun j hj e => ?_), ?_, hx.at (fun e => ?_) h5⟩
  · rcases e with rfl | rfl | e
    · have := h1.lo.1
      omega
    · have : w.heap.size + 1 ≤ x.r := h1.lo.2
      omega
    · have := ho j e
      omega
  · refine hx.at (fun e => ?_) h3
    rcases e with e | e | e
    · have hr : wr.heap[h]? = _ := h1.row
      rw [← e, h3] at hr
      injection hr with hr1
      injection hr1 with _ hr2
      exact absurd hr2 (by decide)
    · exact h1.tab.ne_row h3 e
    · exact own_not_h h1.ltyp h3 (by decide) D e rfl
  · rcases e with e | e | e
    · have := h1.lo.1
      omega
    · have : w.heap.size + 1 ≤ x.r := h1.lo.2
      omega
    · have := ho _ e
      omega
theorem RecAt.step {w wr w' : World} {h D : Nat} {x : HV} {d d' : DpS} {lv : Value} {e : Ending} (h1 : DpAt wr (w.heap.size + 1) h { x with left := d.left, dead := d.dead, log := lv } d) (h2 : Below w.heap.size w wr) (h3 : wr.heap[D]? = some (.cells #[.pointer (some ⟨h, 0, none⟩)] 116 (0, 0))) (h5 : wr.heap[w.heap.size]? = some (.cells #[.int .i64 0, .int .i64 0, .int .i64 0] 34 (0, 0)))
    (hp : DpPost (w.heap.size + 1) h { x with left := d.left, dead := d.dead, log := lv } d' wr e w') : e = .returned (.tuple #[]) ∧ RecAt w h D x d' w' := by
  obtain ⟨he, lv', hd, hx, hl⟩ := hp
  exact ⟨he, RecAt.ext h1 h2 h3 h5 hd hx⟩
theorem host_cells (x : HV) : x.cells = #[x.held, x.seen, x.late, .int .i64 x.left, .int .i64 x.fail, .bool x.dead, .int .i64 x.writes, .int .i64 x.r0, .int .i64 x.r1, .int .i64 x.r2, .map (some x.r), x.log] := rfl
/-- the log is struck, and how many operations are left is set -/
theorem RecAt.reset {w wr : World} {h D : Nat} {x : HV} {d : DpS} (hR : RecAt w h D x d wr) (m : Int) (hm : -1 ≤ m ∧ m ≤ 9223372036854775807) :
    DpAt ((wr.setCell ⟨h, 11, none⟩ (.slice none 0 0)).setCell ⟨h, 3, none⟩ (.int .i64 m)) (w.heap.size + 1) h { x with left := m, dead := d.dead, log := .slice none 0 0 } { d with log := [], left := m } ∧ RecAt w h D x { d with log := [], left := m } ((wr.setCell ⟨h, 11, none⟩ (.slice none 0 0)).setCell ⟨h, 3, none⟩ (.int .i64 m)) := by
  obtain ⟨⟨lv, h1⟩, h2, h3, h5⟩ := hR
  have r0 : wr.heap[h]? = _ := h1.row
  have r1 := heap_setCell _ _ 11 (.slice none 0 0) r0
  have r2 := heap_setCell _ _ 3 (.int .i64 m) r1
  have hoff : ∀ j, j ≠ h → ((wr.setCell ⟨h, 11, none⟩ (.slice none 0 0)).setCell ⟨h, 3, none⟩ (.int .i64 m)).heap[j]? = wr.heap[j]? := fun j hj => (Below.heap_setCell _ ⟨h, 3, none⟩ _ j hj).trans (Below.heap_setCell wr ⟨h, 11, none⟩ _ j hj)
  have hx : Ext (fun i => i = h ∨ i = x.r ∨ lv.ownBlock = some i) wr ((wr.setCell ⟨h, 11, none⟩ (.slice none 0 0)).setCell ⟨h, 3, none⟩ (.int .i64 m)) := ((Ext.refl _ wr).setCell _ _ (.inl (.inl rfl))).setCell _ _ (.inl (.inl rfl))
  have hd : DpAt ((wr.setCell ⟨h, 11, none⟩ (.slice none 0 0)).setCell ⟨h, 3, none⟩ (.int .i64 m)) (w.heap.size + 1) h { x with left := m, dead := d.dead, log := .slice none 0 0 } { d with log := [], left := m } :=
    ⟨r2, rfl, rfl, h1.room, h1.tab.old (hoff _ fun e => h1.tab.ne_row r0 e.symm), OwnS.nil _ _ _, CellsOf.nil _ _, h1.lo, hm⟩
  exact ⟨hd, RecAt.ext (lv' := .slice none 0 0) h1 h2 h3 h5 hd hx⟩
/-- as RecAt; the tables too -/
structure RecQ (w : World) (h D : Nat) (x : HV) (q r : Nat) (T : List E) (d : DpS) (W : World) : Prop where
  dp : ∃ lv, DpAt W (w.heap.size + 1) h { x with left := d.left, dead := d.dead, log := lv } d ∧ lv.ownBlock ≠ some q
  old : Below w.heap.size w W
  box : W.heap[D]? = some (.cells #[.pointer (some ⟨h, 0, none⟩)] 116 (0, 0))
  ent : EntAt W q 0 r T
  res : W.heap[w.heap.size]? = some (.cells #[.int .i64 0, .int .i64 0, .int .i64 0] 34 (0, 0))
theorem RecQ.below {w W w' : World} {h D q r : Nat} {x : HV} {T : List E} {d : DpS} (hQ : RecQ w h D x q r T d W) (hb : Below W.heap.size W w') : RecQ w h D x q r T d w' := by
  obtain ⟨⟨lv, h1, h0⟩, h2, h3, h4, h5⟩ := hQ
  exact ⟨⟨lv, h1.below hb, h0⟩, h2.trans (hb.mono h2.size), (hb.block _ (block_lt h3)).trans h3, h4.below hb, (hb.block _ (block_lt h5)).trans h5⟩
theorem rec_once {w W : World} {h D q r : Nat} {x : HV} {T : List E} {d : DpS} (hQ : RecQ w h D x q r T d W) (hge : ErrVar w) (hT : T.length ≤ 100000000) (hS : d.S.length ≤ 100000000) (hL : d.log.length ≤ 7500000000000) (hSk : ∀ y ∈ d.S, y.1.2.length ≤ maxB) (hTk : ∀ y ∈ T, y.1.2.length ≤ maxB ∧ y.2.length ≤ maxB) (hq1 : q ≠ h) (hr1 : r ≠ x.r) (R : Nat → Int) (hR : d.room = R) :
    Calls Tryz.prog 63 #[dpV h, .pointer (some ⟨q, 0, none⟩)] W fun e w' => ∃ u, e = .returned u ∧ RecQ w h D x q r T (recOnce d T) w' ∧ (∀ (j : Nat) (C : Array Value) (fz : Nat × Nat), W.heap[j]? = some (.cells C 34 fz) → w'.heap[j]? = W.heap[j]?) ∧ ∀ W', Below w'.heap.size w' W' → Calls Tryz.prog 62 #[u] W' fun e2 w2 => e2 = .returned (.agg #[.int .i64 (recFault T R).1, .int .i64 (recFault T R).2, .int .i64 0]) ∧ Below W'.heap.size W' w2 := by
  subst hR
  have hQ' := hQ
  obtain ⟨⟨lv, h1, h0⟩, h2, h3, h4, h5⟩ := hQ'
  have hroom : ({ x with left := d.left, dead := d.dead, log := lv } : HV).room = d.room := h1.room
  cases ho : overS T d.room with
  | some t =>
    refine (reconcile_full q r h t _ T W h4 h1.row (by omega) (by rw [hroom]; exact ho)).mono ?_
    rintro e w' ⟨b, rfl, hb, hrow, hbw⟩
    have e1 : recOnce d T = d := by unfold recOnce; rw [ho]
    have e2 : recFault T d.room = (10, (t : Int)) := by unfold recFault; rw [ho]
    rw [e1, e2]
    refine ⟨_, rfl, hQ.below hbw, fun j C fz hj => hbw.block j (block_lt hj), fun W' hW' => ?_⟩
    exact parts_fault b 10 (t : Int) W' (hge.new (h2.trans ((hbw.trans (hW'.mono hbw.size)).mono h2.size))) ((hW'.block b (block_lt hrow)).trans hrow) (by omega) (by omega)
  | none =>
    refine (reconcile_good (w.heap.size + 1) q r h _ d T W h4 h1 hT hS hL hSk hTk (by have := h1.lo.1; have := block_lt h1.row; omega) hq1 h0 hr1 (by rw [hroom]; exact ho)).mono ?_
    rintro e w' ⟨rfl, ⟨lv', g1, g2⟩, g3⟩
    have e1 : recOnce d T = d.run (opsB d.S T) := by unfold recOnce; rw [ho]
    have e2 : recFault T d.room = (0, 0) := by unfold recFault; rw [ho]
    rw [e1, e2]
    have hR := RecAt.ext h1 h2 h3 h5 g1 g3
    have hqs : ¬ (q = h ∨ q = x.r ∨ lv.ownBlock = some q) := fun e => by
      rcases e with e | e | e
      · exact hq1 e
      · exact cell_not_map h4.cell h1.tab e
      · exact h0 e
    have hrs : ¬ (r = h ∨ r = x.r ∨ lv.ownBlock = some r) := fun e => by
      rcases e with e | e | e
      · exact h4.tab.ne_row h1.row e.symm
      · exact hr1 e
      · obtain ⟨C, fz, hC⟩ := h1.ltyp r e
        exact h4.tab.ne_row hC rfl
    refine ⟨_, rfl, ⟨⟨lv', g1, fun e => ?_⟩, hR.old, hR.box, ⟨g3.cell (p := ⟨q, 0, none⟩) hqs h4.cell, h4.tab.old (g3.block r h4.tab.lt hrs)⟩, hR.res⟩, fun j C fz hj => g3.block j (block_lt hj) fun e => ?_, fun W' _ => parts_nil W'⟩
    · rcases g2 q e with e | e
      · exact h0 e
      · have := h4.lt
        omega
    · rcases e with e | e | e
      · have hr : W.heap[h]? = _ := h1.row
        rw [← e, hj] at hr
        injection hr with hr1
        injection hr1 with _ hr2
        exact absurd hr2 (by decide)
      · exact h1.tab.ne_row hj e
      · exact own_not_h h1.ltyp hj (by decide) j e rfl
/-- it lives again -/
theorem RecQ.again {w wr : World} {h D q r : Nat} {x : HV} {T : List E} {d : DpS} (hR : RecQ w h D x q r T d wr) (hq1 : q ≠ h) :
    RecQ w h D x q r T { d with left := -1, dead := false } ((wr.setCell ⟨h, 3, none⟩ (.int .i64 (-1))).setCell ⟨h, 5, none⟩ (.bool false)) := by
  obtain ⟨⟨lv, h1, h0⟩, h2, h3, h4, h5⟩ := hR
  have r0 : wr.heap[h]? = _ := h1.row
  have r1 := heap_setCell _ _ 3 (.int .i64 (-1)) r0
  have r2 := heap_setCell _ _ 5 (.bool false) r1
  have hoff : ∀ j, j ≠ h → ((wr.setCell ⟨h, 3, none⟩ (.int .i64 (-1))).setCell ⟨h, 5, none⟩ (.bool false)).heap[j]? = wr.heap[j]? := fun j hj => (Below.heap_setCell _ ⟨h, 5, none⟩ _ j hj).trans (Below.heap_setCell wr ⟨h, 3, none⟩ _ j hj)
  have hx : Ext (fun i => i = h ∨ i = x.r ∨ lv.ownBlock = some i) wr ((wr.setCell ⟨h, 3, none⟩ (.int .i64 (-1))).setCell ⟨h, 5, none⟩ (.bool false)) := ((Ext.refl _ wr).setCell _ _ (.inl (.inl rfl))).setCell _ _ (.inl (.inl rfl))
  have hxx : Ext (fun i => i = h) wr ((wr.setCell ⟨h, 3, none⟩ (.int .i64 (-1))).setCell ⟨h, 5, none⟩ (.bool false)) := ((Ext.refl (fun i => i = h) wr).setCell ⟨h, 3, none⟩ _ (.inl rfl)).setCell ⟨h, 5, none⟩ _ (.inl rfl)
  have hne : ∀ i, lv.ownBlock = some i → i ≠ h := own_not_h h1.ltyp r0 (by decide)
  have hd : DpAt ((wr.setCell ⟨h, 3, none⟩ (.int .i64 (-1))).setCell ⟨h, 5, none⟩ (.bool false)) (w.heap.size + 1) h { x with left := -1, dead := false, log := lv } { d with left := -1, dead := false } :=
    ⟨r2, rfl, rfl, h1.room, h1.tab.old (hoff _ fun e => h1.tab.ne_row r0 e.symm), h1.own.frame (by rw [size_setCell, size_setCell]; exact Nat.le_refl _) fun i e _ => hoff i (hne i e), h1.ltyp.frame fun i e _ => hoff i (hne i e), h1.lo, ⟨by show (-1 : Int) ≤ -1; omega, by show (-1 : Int) ≤ _; omega⟩⟩
  have hra := RecAt.ext (d' := { d with left := -1, dead := false }) (lv' := lv) h1 h2 h3 h5 hd hx
  exact ⟨⟨lv, hd, h0⟩, hra.old, hra.box, ⟨hxx.cell (p := ⟨q, 0, none⟩) hq1 h4.cell, h4.tab.old (hoff _ fun e => h4.tab.ne_row r0 e.symm)⟩, hra.res⟩
/-- a box of a fault is filled -/
theorem RecQ.setF {w W : World} {h D q r b : Nat} {x : HV} {T : List E} {d : DpS} {a0 a1 a2 : Int} (hQ : RecQ w h D x q r T d W) (hb : W.heap[b]? = some (.cells #[.int .i64 a0, .int .i64 a1, .int .i64 a2] 34 (0, 0))) (hne : w.heap.size < b) (u0 u1 u2 : Value) :
    RecQ w h D x q r T d (((W.setCell ⟨b, 0, none⟩ u0).setCell ⟨b, 1, none⟩ u1).setCell ⟨b, 2, none⟩ u2) ∧ (((W.setCell ⟨b, 0, none⟩ u0).setCell ⟨b, 1, none⟩ u1).setCell ⟨b, 2, none⟩ u2).heap[b]? = some (.cells #[u0, u1, u2] 34 (0, 0)) := by
  obtain ⟨⟨lv, h1, h0⟩, h2, h3, h4, h5⟩ := hQ
  have hx : Ext (fun i => i = b) W (((W.setCell ⟨b, 0, none⟩ u0).setCell ⟨b, 1, none⟩ u1).setCell ⟨b, 2, none⟩ u2) := (((Ext.refl (fun i => i = b) W).setCell ⟨b, 0, none⟩ _ (.inl rfl)).setCell ⟨b, 1, none⟩ _ (.inl rfl)).setCell ⟨b, 2, none⟩ _ (.inl rfl)
  have r0 : W.heap[h]? = _ := h1.row
  have n1 : h ≠ b := fun e => by
    rw [e, hb] at r0
    injection r0 with e1
    injection e1 with _ e2
    exact absurd e2 (by decide)
  have n2 : x.r ≠ b := fun e => h1.tab.ne_row hb e.symm
  have n3 : ∀ i, lv.ownBlock = some i → i ≠ b := own_not_h h1.ltyp hb (by decide)
  have n4 : D ≠ b := fun e => by
    rw [e, hb] at h3
    injection h3 with e1
    injection e1 with _ e2
    exact absurd e2 (by decide)
  have n5 : q ≠ b := fun e => by
    have c := h4.cell
    have c0 := cell_of_row _ _ 0 _ _ _ hb
    rw [e, c0] at c
    cases c
  have n6 : r ≠ b := fun e => h4.tab.ne_row hb e.symm
  refine ⟨⟨⟨lv, ⟨hx.at n1 r0, h1.left, h1.dead, h1.room, h1.tab.old (hx.block _ h1.tab.lt n2), h1.own.frame hx.size fun i e hi => hx.block i hi (n3 i e), h1.ltyp.frame fun i e hi => hx.block i hi (n3 i e), h1.lo, h1.lb⟩, h0⟩, ?_, hx.at n4 h3, ⟨hx.cell (p := ⟨q, 0, none⟩) n5 h4.cell, h4.tab.old (hx.block _ h4.tab.lt n6)⟩, hx.at (fun e => by omega) h5⟩, ?_⟩
  · exact h2.trans (hx.below h2.size fun j hj e => by omega)
  · exact heap_setCell _ _ 2 _ (heap_setCell _ _ 1 _ (heap_setCell _ _ 0 _ hb))
theorem EntsAt.setInt {W : World} {v : Value} {S : List E} {b i : Nat} {a0 a1 a2 : Int} {T : TypeId} {fz : Nat × Nat} (h : EntsAt W v S) (hr : W.heap[b]? = some (.cells #[.int .i64 a0, .int .i64 a1, .int .i64 a2] T fz)) (u : Value) : EntsAt (W.setCell ⟨b, i, none⟩ u) v S := by
  have ho := h.opened
  obtain ⟨h1, a, cap, rfl, hc, hx⟩ := h
  obtain ⟨a', cap', e, -, hy⟩ := ho
  cases e
  refine ⟨h1, a, cap, rfl, hc, fun j hj => ?_⟩
  obtain ⟨b', off, rfl, hcell⟩ := hx j hj
  have hj2 := hj
  rw [entCells_length] at hj2
  obtain ⟨b2, off2, e, -, hs, -⟩ := hy 0 (by omega)
  cases e
  have hne : b' ≠ b := fun e => by
    rw [e] at hs
    unfold World.cell? at hs
    simp only [hr] at hs
    have hi : ∀ (k : Nat) (z : Value), (#[Value.int .i64 a0, .int .i64 a1, .int .i64 a2] : Array Value)[k]? = some z → ∃ n, z = .int .i64 n := fun k z hk => by
      match k, hk with
      | 0, hk => exact ⟨_, (Option.some.inj hk).symm⟩
      | 1, hk => exact ⟨_, (Option.some.inj hk).symm⟩
      | 2, hk => exact ⟨_, (Option.some.inj hk).symm⟩
      | k + 3, hk => simp at hk
    have := hi _ _ hs
    obtain ⟨n, hn⟩ := this
    cases hn
  exact ⟨b', off, rfl, by rw [World.cell?_setCell_other (h := by simp [hne])]; exact hcell⟩
/-- the results are laid -/
theorem rec_end {w W w11 : World} {h D q r : Nat} {x : HV} {T : List E} {d : DpS} {lv v : Value} (hQ : RecQ w h D x q r T d W) (hd : DpAt W (w.heap.size + 1) h { x with left := d.left, dead := d.dead, log := lv } d) (hb : Below W.heap.size W w11) (he : EntsAt w11 v d.S) (f0 f1 f2 : Int) :
    EntsAt (((w11.setCell ⟨w.heap.size, 0, none⟩ (.int .i64 f0)).setCell ⟨w.heap.size, 1, none⟩ (.int .i64 f1)).setCell ⟨w.heap.size, 2, none⟩ (.int .i64 f2)) v d.S ∧ SliceAt (((w11.setCell ⟨w.heap.size, 0, none⟩ (.int .i64 f0)).setCell ⟨w.heap.size, 1, none⟩ (.int .i64 f1)).setCell ⟨w.heap.size, 2, none⟩ (.int .i64 f2)) lv 1 d.log.length (strsV d.log) ∧
      Below w.heap.size w (((w11.setCell ⟨w.heap.size, 0, none⟩ (.int .i64 f0)).setCell ⟨w.heap.size, 1, none⟩ (.int .i64 f1)).setCell ⟨w.heap.size, 2, none⟩ (.int .i64 f2)) ∧ (((w11.setCell ⟨w.heap.size, 0, none⟩ (.int .i64 f0)).setCell ⟨w.heap.size, 1, none⟩ (.int .i64 f1)).setCell ⟨w.heap.size, 2, none⟩ (.int .i64 f2)).heap[w.heap.size]? = some (.cells #[.int .i64 f0, .int .i64 f1, .int .i64 f2] 34 (0, 0)) := by
  obtain ⟨-, h2, -, -, h5⟩ := hQ
  have r0 := below_at hb (block_lt h5) h5
  have r1 := heap_setCell _ _ 0 (.int .i64 f0) r0
  have r2 := heap_setCell _ _ 1 (.int .i64 f1) r1
  have r3 := heap_setCell _ _ 2 (.int .i64 f2) r2
  have hx : Ext (fun i => i = w.heap.size) w11 (((w11.setCell ⟨w.heap.size, 0, none⟩ (.int .i64 f0)).setCell ⟨w.heap.size, 1, none⟩ (.int .i64 f1)).setCell ⟨w.heap.size, 2, none⟩ (.int .i64 f2)) := (((Ext.refl (fun i => i = w.heap.size) w11).setCell ⟨w.heap.size, 0, none⟩ _ (.inl rfl)).setCell ⟨w.heap.size, 1, none⟩ _ (.inl rfl)).setCell ⟨w.heap.size, 2, none⟩ _ (.inl rfl)
  have hown := (hd.below hb).own
  refine ⟨((he.setInt r0 _).setInt r1 _).setInt r2 _, ?_, ?_, r3⟩
  · refine (hown.frame hx.size fun i e hi => hx.block i hi fun e' => ?_).sliceAt
    have := hown.ownBlock_ge i e
    omega
  · exact (h2.tn hb).trans (hx.below (h2.tn hb).size fun j hj e => by omega)
theorem recAgain_len (l : List Int) (old want : List E) (stop : Int) (hwl : want.length ≤ 300) : (recOnce { (recOnce { recStart l old with log := [], left := max stop (-1) } (laidS want)) with left := -1, dead := false } (laidS want)).S.length ≤ 1000000 := by
  have hTG := laid_good want
  have hl := hTG.len
  obtain ⟨hs1, hs2, hs3, hs4⟩ := recStart_is l old
  have hOK1 := thereB_ok (roomN l) (fun t => (roomN_bound l t).1) (fun _ => True) old fun _ _ => trivial
  have one : ∀ (d : DpS), SortedE d.S → SortedE (recOnce d (laidS want)).S ∧ (recOnce d (laidS want)).S.length ≤ 2 * d.S.length + 2400 := fun d hS => by
    unfold recOnce
    split
    · exact ⟨hS, by omega⟩
    · obtain ⟨r0, r1, -⟩ := DpS.run_size (opsB d.S (laidS want)) hS
      have := opsB_len d.S (laidS want)
      exact ⟨r0, by omega⟩
  obtain ⟨a1, a2⟩ := one { recStart l old with log := [], left := max stop (-1) } (by show SortedE (recStart l old).S; rw [hs4]; exact hOK1.sorted)
  have a3 : ({ recStart l old with log := [], left := max stop (-1) } : DpS).S.length ≤ 120 := by
    show (recStart l old).S.length ≤ 120
    rw [hs4]
    exact hOK1.len
  obtain ⟨-, b2⟩ := one { (recOnce { recStart l old with log := [], left := max stop (-1) } (laidS want)) with left := -1, dead := false } a1
  have b3 : ({ (recOnce { recStart l old with log := [], left := max stop (-1) } (laidS want)) with left := -1, dead := false } : DpS).S.length = (recOnce { recStart l old with log := [], left := max stop (-1) } (laidS want)).S.length := rfl
  omega
set_option maxRecDepth 100000 in
set_option maxHeartbeats 4000000 in
theorem reconciled_any (l : List Int) (old want : List E) (stop : Int) (again : Bool) (rv ov tv : Value) (w : World) (hr : SliceAt w rv 1 l.length (l.map fun i => .int .i64 i)) (ho : EntsAt w ov old) (ht : EntsAt w tv want) (hg : ShapesVar w) (hge : ErrVar w)
    (hfit : ∀ x ∈ want, OpsFit [putOp x]) (hwl : want.length ≤ 300) (hol : old.length ≤ 3518437208883) (hok : ∀ x ∈ old, x.1.2.length ≤ maxB ∧ x.2.length ≤ maxB) (hs : stop ≤ 9223372036854775807) :
    Calls Tryz.prog 17 #[rv, ov, tv, .int .i64 stop, .bool again] w fun e w' => ∃ v lv, e = .returned (.tuple #[v, lv, .agg #[.int .i64 (recFault (laidS want) (roomN l)).1, .int .i64 (recFault (laidS want) (roomN l)).2, .int .i64 0]]) ∧
      EntsAt w' v (recB l old (laidS want) stop again).S ∧ SliceAt w' lv 1 (recB l old (laidS want) stop again).log.length (strsV (recB l old (laidS want) stop again).log) ∧ Below w.heap.size w w' := by
  have hTG := laid_good want
  have hTl : (laidS want).length ≤ 100000000 := by have := hTG.len; omega
  have hTk : ∀ y ∈ laidS want, y.1.2.length ≤ maxB ∧ y.2.length ≤ maxB := fun y hy => by
    obtain ⟨g0, g2, g3, g4⟩ := hTG.good y hy
    have l1 := isKeyB_length g3
    have l2 := isValueB_length g0 g2 g4
    have k6 : keyLen y.1.1 ≤ 6 := by unfold keyLen; repeat' split
                                     all_goals omega
    have k4 : valLen y.1.1 ≤ 4 := by unfold valLen; repeat' split
                                     all_goals omega
    unfold maxB
    omega
  have hOK1 := thereB_ok (roomN l) (fun t => (roomN_bound l t).1) (fun y => y.1.2.length ≤ maxB) old fun y hy => (hok y hy).1
  obtain ⟨hs1, hs2, hs3, hs4⟩ := recStart_is l old
  have hA : (recStart l old).S.length ≤ 100000000 ∧ ∀ y ∈ (recStart l old).S, y.1.2.length ≤ maxB := by
    rw [hs4]
    exact ⟨by have := hOK1.len; omega, hOK1.mem⟩
  have hB : ∀ d, d = recOnce { recStart l old with log := [], left := max stop (-1) } (laidS want) → d.S.length ≤ 10000 ∧ d.log.length ≤ 7500000000000 ∧ ∀ y ∈ d.S, y.1.2.length ≤ maxB := fun d e => by
    have h1 := recOnce_bounds { recStart l old with log := [], left := max stop (-1) } (laidS want) (by show SortedE (recStart l old).S; rw [hs4]; exact hOK1.sorted) (by show (recStart l old).S.length ≤ 120; rw [hs4]; exact hOK1.len) (by show 0 ≤ 120; omega) (by have := hTG.len; omega) (by show ∀ y ∈ (recStart l old).S, _; rw [hs4]; exact hOK1.mem) (fun y hy => (hTk y hy).1)
    rw [e]
    exact ⟨by omega, by omega, h1.2.2⟩
  clear hs1 hs2 hs4 hOK1 hTG
  have HRM := Lib.hid hs3
  clear hs3
  have HNH := fun (W : World) (hW : Below w.heap.size w W) => Lib.hid (newHost_any 0 l rv W (SliceAt.below hr hW) 32 (by decide))
  have HO := Lib.hid ho
  have HT := Lib.hid ht
  obtain ⟨oa, oc, rfl, hoc, -⟩ := ho.opened
  obtain ⟨ta, tc, rfl, htc, -⟩ := ht.opened
  clear ho ht hr
  go_enter Tryz.func17, Tryz.ntmps17
  go_wp2_with fail
  have hb0 : Below w.heap.size w (w.alloc (.cells #[.int .i64 0, .int .i64 0, .int .i64 0] 34)) := (Below.refl _ w).alloc (Nat.le_refl _) _
  have R0 := heap_new w (.cells #[.int .i64 0, .int .i64 0, .int .i64 0] 34)
  refine (HNH _ hb0).out.mono ?_
  rintro e w1 ⟨h, rfl, ⟨x, hx⟩, hb1⟩
  have hbw1 : Below w.heap.size w w1 := hb0.trans (hb1.mono (by rw [World.size_alloc]; omega))
  have hF : ∀ k, (w.alloc (.cells #[.int .i64 0, .int .i64 0, .int .i64 0] 34)).heap.size ≤ k → w.heap.size + 1 ≤ k := fun k hk => by rw [World.size_alloc] at hk; exact hk
  have hd1 : DpAt w1 (w.heap.size + 1) h x (newH 32 (roomN l)).dp := hx.dp.raise (hF _ hx.foot.1.1) (hF _ hx.foot.2.1.1) (fun k e => hF k (hx.foot.2.2 k e).1)
  have R1 : w1.heap[w.heap.size]? = some (.cells #[.int .i64 0, .int .i64 0, .int .i64 0] 34 (0, 0)) := (hb1.block _ (by rw [World.size_alloc]; omega)).trans R0
  have HD1 := Lib.hid hd1
  have HR1 := Lib.hid R1
  have HB1 := Lib.hid hbw1
  have hlt1 := hbw1.size
  clear hx hd1 R0 R1 hb0 hb1 hF hbw1
  have hb2 : Below w1.heap.size w1 (w1.alloc (.cells #[.pointer (some ⟨h, 0, none⟩)] 116)) := (Below.refl _ w1).alloc (Nat.le_refl _) _
  have HD2 := Lib.hid (HD1.out.below hb2)
  have HB2 := Lib.hid (HB1.out.trans (hb2.mono hlt1))
  have HP2 := Lib.hid (heap_new w1 (.cells #[.pointer (some ⟨h, 0, none⟩)] 116))
  have HR2 := Lib.hid (heap_old w1 (.cells #[.pointer (some ⟨h, 0, none⟩)] 116) HR1.out)
  have hrec : RecAt w h w1.heap.size x (newH 32 (roomN l)).dp (w1.alloc (.cells #[.pointer (some ⟨h, 0, none⟩)] 116)) := ⟨⟨x.log, by
    have e : ({ x with left := (newH 32 (roomN l)).dp.left, dead := (newH 32 (roomN l)).dp.dead, log := x.log } : HV) = x := by
      rw [← HD2.out.left, ← HD2.out.dead]
    rw [e]
    exact HD2.out⟩, HB2.out, HP2.out, HR2.out⟩
  have HREC := Lib.hid hrec
  clear hb2 hrec HD1 HD2 HB1 HB2 HP2 HR1 HR2 HNH
  go_wp2_with fail
  go_loopw [25] (fun i wr => ∃ k : Nat, k ≤ old.length ∧ i = .int .i64 (k : Int) ∧ RecAt w h w1.heap.size x ((newH 32 (roomN l)).dp.run (putOps (old.take k))) wr) (fun i _ => old.length - (intOf i).toNat)
  case atStart => exact ⟨0, Nat.zero_le _, rfl, HREC.out⟩
  case round =>
    obtain ⟨k, hk, rfl, hrec⟩ := hrel
    have HRK := Lib.hid hrec
    have p0 : wr.cell? ⟨w1.heap.size, 0, none⟩ = some (.pointer (some ⟨h, 0, none⟩)) := cell_of_row _ _ 0 _ _ _ hrec.box
    have hbl := block_lt hrec.box
    clear hrec HREC
    by_cases hlt : k < old.length
    · have g1 : (k : Int) < old.length := by omega
      have ho := EntsAt.below HO.out HRK.out.old
      obtain ⟨ra, rc, re, -, hxs⟩ := ho.opened
      cases re
      obtain ⟨g, off, rfl, c0, c1, c2⟩ := hxs k hlt
      have HSN := Lib.hid (start_snoc (newH 32 (roomN l)).dp old k hlt)
      have HOK := Lib.hid (hok _ (List.getElem_mem hlt))
      have HSZ := Lib.hid (DpS.run_size (d := (newH 32 (roomN l)).dp) (putOps (old.take k)) SortedE.nil)
      have HLE : Hid ((putOps (old.take k)).length ≤ 3518437208883) := Lib.hid (by
        unfold putOps
        rw [List.length_map, List.length_take]
        omega)
      have HS1 : Hid (((newH 32 (roomN l)).dp.run (putOps (old.take k))).S.length ≤ 120) := Lib.hid (by
        have e := (recStart_is l (old.take k)).2.2.2
        have e' : ((newH 32 (roomN l)).dp.run (putOps (old.take k))).S = thereB (roomN l) (old.take k) := e
        rw [e']
        exact (thereB_ok (roomN l) (fun t => (roomN_bound l t).1) (fun _ => True) (old.take k) fun _ _ => trivial).len)
      generalize hx0 : old[k] = x0 at c0 c1 c2 HSN HOK
      obtain ⟨⟨xt, xk⟩, xv⟩ := x0
      clear hxs ho hx0
      go_wp2_with fail
      have hbx : Below wr.heap.size wr (wr.alloc (.cells #[.int .i64 xt, .string ⟨xk.toArray⟩, .string ⟨xv.toArray⟩] 101)) := (Below.refl _ wr).alloc (Nat.le_refl _) _
      obtain ⟨⟨lv, hd⟩, hb, hbox, hres⟩ := HRK.out.below hbx
      refine (dpPut_any (w.heap.size + 1) h _ _ xt xk xv _ hd (by have := hd.lo.1; have := block_lt hd.row; omega) (by have := HSZ.out.2.2; have := HLE.out; have e : (newH 32 (roomN l)).dp.log.length = 0 := rfl; omega) HOK.out.1 HOK.out.2 (by have := HS1.out; omega)).mono ?_
      intro e w3 hp
      obtain ⟨rfl, hr3⟩ := RecAt.step hd hb hbox hres hp
      have HR3 := Lib.hid hr3
      clear hd hb hbox hres hp hr3 hbx
      go_wp2
      go_roundw
      case rel => exact ⟨k + 1, by omega, by go_num, by rw [HSN.out]; exact HR3.out⟩
      case measure => simp [intOf]; omega
    · have g1 : ¬ ((k : Int) < old.length) := by omega
      obtain rfl : k = old.length := by omega
      rw [List.take_length] at HRK
      have HLA := Lib.hid (laid_any _ want wr (EntsAt.below HT.out HRK.out.old) (hg.new HRK.out.old) hfit (by omega))
      have hhl : h < wr.heap.size ∧ x.r < wr.heap.size := by
        obtain ⟨⟨lv, hd⟩, -, -, -⟩ := HRK.out
        exact ⟨block_lt hd.row, hd.tab.lt⟩
      go_wp2_with fail
      refine HLA.out.mono ?_
      rintro e w4 ⟨rfl, he4, hb4⟩
      have HR4 := Lib.hid (HRK.out.below hb4)
      have HE4 := Lib.hid he4
      clear HLA HRK p0 hbl he4 hb4
      have hR4 := HR4.out
      obtain ⟨⟨lv, hd⟩, -, hbox, -⟩ := hR4
      have r4 : w4.heap[h]? = _ := hd.row
      rw [host_cells] at r4
      have c11 : w4.cell? ⟨h, 11, none⟩ = some lv := cell_of_row _ _ 11 _ _ _ r4
      have c3 : w4.cell? ⟨h, 3, none⟩ = some (.int .i64 ((newH 32 (roomN l)).dp.run (putOps old)).left) := cell_of_row _ _ 3 _ _ _ r4
      have p4 : w4.cell? ⟨w1.heap.size, 0, none⟩ = some (.pointer (some ⟨h, 0, none⟩)) := cell_of_row _ _ 0 _ _ _ hbox
      have z11 := frozen_of_row _ _ 11 _ _ r4
      have z3 := frozen_of_row _ _ 3 _ _ r4
      have hne : w1.heap.size ≠ h := fun e => by
        rw [e] at hbox
        rw [hbox] at r4
        injection r4 with hr1
        injection hr1 with _ hr2
        exact absurd hr2 (by decide)
      clear r4 hd hbox
      have HRS := Lib.hid (HR4.out.reset (max stop (-1)) ⟨by omega, by omega⟩)
      have HQ : Hid (RecQ w h w1.heap.size x (wr.heap.size + 1) wr.heap.size (laidS want) { recStart l old with log := [], left := max stop (-1) } ((w4.setCell ⟨h, 11, none⟩ (.slice none 0 0)).setCell ⟨h, 3, none⟩ (.int .i64 (max stop (-1))))) := by
        refine Lib.hid ⟨⟨.slice none 0 0, HRS.out.1, fun e => by simp [Value.ownBlock] at e⟩, HRS.out.2.old, HRS.out.2.box, ?_, HRS.out.2.res⟩
        have hxx : Ext (fun i => i = h) w4 ((w4.setCell ⟨h, 11, none⟩ (.slice none 0 0)).setCell ⟨h, 3, none⟩ (.int .i64 (max stop (-1)))) := ((Ext.refl (fun i => i = h) w4).setCell ⟨h, 11, none⟩ _ (.inl rfl)).setCell ⟨h, 3, none⟩ _ (.inl rfl)
        exact ⟨hxx.cell (p := ⟨wr.heap.size + 1, 0, none⟩) (fun e : wr.heap.size + 1 = h => by omega) HE4.out.cell, HE4.out.tab.old (hxx.block _ HE4.out.tab.lt (fun e : wr.heap.size = h => by omega))⟩
      have HON := Lib.hid (rec_once HQ.out hge hTl hA.1 (by show 0 ≤ _; omega) hA.2 hTk (by omega) (by omega) (roomN l) HRM.out)
      clear HRS HR4 HE4
      go_wp2_with fail
      refine HON.out.mono ?_
      rintro e w7 ⟨u, rfl, hq7, -, hp7⟩
      have HQ7 := Lib.hid hq7
      have HP7 := Lib.hid (hp7 w7 (Below.refl _ _))
      clear hq7 hp7 HON HQ
      go_wp2_with fail
      refine HP7.out.mono ?_
      rintro e w8 ⟨rfl, hb8⟩
      have HQ8 := Lib.hid (HQ7.out.below hb8)
      clear HP7 HQ7 hb8
      cases again with
      | false =>
        have HFB := Lib.hid (heap_new w8 (.cells #[.int .i64 (recFault (laidS want) (roomN l)).1, .int .i64 (recFault (laidS want) (roomN l)).2, .int .i64 0] 34))
        have HQF := Lib.hid (HQ8.out.below ((Below.rf w8).alloc (Nat.le_refl _) (.cells #[.int .i64 (recFault (laidS want) (roomN l)).1, .int .i64 (recFault (laidS want) (roomN l)).2, .int .i64 0] 34)))
        have HSZF := Lib.hid (hB _ rfl).1
        go_upto_region 17 with fail
        generalize w8.alloc (.cells #[.int .i64 (recFault (laidS want) (roomN l)).1, .int .i64 (recFault (laidS want) (roomN l)).2, .int .i64 0] 34) = wF at *
        obtain ⟨⟨lvF, hdF, -⟩, -, -, -, hrF⟩ := HQF.out
        have rF : wF.heap[h]? = _ := hdF.row
        rw [host_cells] at rF
        have g11 : wF.cell? ⟨h, 11, none⟩ = some lvF := cell_of_row _ _ 11 _ _ _ rF
        have g0 : wF.cell? ⟨w8.heap.size, 0, none⟩ = some (.int .i64 (recFault (laidS want) (roomN l)).1) := cell_of_row _ _ 0 _ _ _ HFB.out
        have g1 : wF.cell? ⟨w8.heap.size, 1, none⟩ = some (.int .i64 (recFault (laidS want) (roomN l)).2) := cell_of_row _ _ 1 _ _ _ HFB.out
        have g2 : wF.cell? ⟨w8.heap.size, 2, none⟩ = some (.int .i64 0) := cell_of_row _ _ 2 _ _ _ HFB.out
        have hlh := block_lt rF
        have hnh : h ≠ w.heap.size := by have := hdF.lo.1; omega
        have hnf : w8.heap.size ≠ w.heap.size := by have := HQ8.out.old.size; have := block_lt HQ8.out.res; omega
        have hlf := block_lt HFB.out
        have hlr := block_lt hrF
        have HLV := Lib.hid hdF
        have HDU := Lib.hid (fun W (hW : Below wF.heap.size wF W) => hdump_any h _ _ W (hdF.below hW).row (hdF.below hW).tab (by have := HSZF.out; omega))
        have HRF := Lib.hid hrF
        clear rF hdF hrF
        go_region_held3 (fun w' => w'.cell? ⟨h, 11, none⟩ = some lvF ∧ w'.cell? ⟨w8.heap.size, 0, none⟩ = some (.int .i64 (recFault (laidS want) (roomN l)).1) ∧ w'.cell? ⟨w8.heap.size, 1, none⟩ = some (.int .i64 (recFault (laidS want) (roomN l)).2) ∧ w'.cell? ⟨w8.heap.size, 2, none⟩ = some (.int .i64 0))
          (first | exact ⟨g11, g0, g1, g2⟩ | exact ⟨(HBb.out.cell (p := ⟨h, 11, none⟩) hlh).trans g11, (HBb.out.cell (p := ⟨w8.heap.size, 0, none⟩) hlf).trans g0, (HBb.out.cell (p := ⟨w8.heap.size, 1, none⟩) hlf).trans g1, (HBb.out.cell (p := ⟨w8.heap.size, 2, none⟩) hlf).trans g2⟩ | exact ⟨cell_apart3 hnh ((HBb.out.cell (p := ⟨h, 11, none⟩) hlh).trans g11), cell_apart3 hnf ((HBb.out.cell (p := ⟨w8.heap.size, 0, none⟩) hlf).trans g0), cell_apart3 hnf ((HBb.out.cell (p := ⟨w8.heap.size, 1, none⟩) hlf).trans g1), cell_apart3 hnf ((HBb.out.cell (p := ⟨w8.heap.size, 2, none⟩) hlf).trans g2)⟩)
          (first | (go_at_call 64; refine (HDU.out _ (by first | exact Below.rf _ | exact (Below.rf _).drew)).mono ?_; rintro e w11 ⟨v, rfl, he11, hb11⟩; have HBb : Hid (Below wF.heap.size wF w11) := Lib.hid (by first | exact hb11 | exact (Below.rf wF).drew.tn hb11); have HE11 := Lib.hid he11; have R11 := below_at HBb.out hlr HRF.out; have r0 := cell_of_row _ _ 0 _ _ _ R11; have r1 := cell_of_row _ _ 1 _ _ _ R11; have r2 := cell_of_row _ _ 2 _ _ _ R11; have z0 := frozen_of_row _ _ 0 _ _ R11; have z1 := frozen_of_row _ _ 1 _ _ R11; have z2 := frozen_of_row _ _ 2 _ _ R11; have hlR := block_lt R11; clear he11 hb11 R11))
        go_wp2
        obtain ⟨e1, e2, e3, e4⟩ := rec_end HQF.out HLV.out HBb.out HE11.out (recFault (laidS want) (roomN l)).1 (recFault (laidS want) (roomN l)).2 0
        have x0 := cell_of_row _ _ 0 _ _ _ e4
        have x1 := cell_of_row _ _ 1 _ _ _ e4
        have x2 := cell_of_row _ _ 2 _ _ _ e4
        simp only [List.getElem?_toArray, List.getElem?_cons_zero, List.getElem?_cons_succ] at x0 x1 x2
        refine bodyPost_ret (v := .tuple #[v, lvF, .agg #[.int .i64 (recFault (laidS want) (roomN l)).1, .int .i64 (recFault (laidS want) (roomN l)).2, .int .i64 0]]) (by simp [results, Tryz.results17, go_sem, x0, x1, x2]) rfl ⟨v, lvF, rfl, e1, e2, e3⟩
      | true =>
        have hQ8 := HQ8.out
        obtain ⟨⟨lv8, hd8, -⟩, -, hbox8, -, -⟩ := hQ8
        have r8 : w8.heap[h]? = _ := hd8.row
        rw [host_cells] at r8
        have c3 : w8.cell? ⟨h, 3, none⟩ = some (.int .i64 (recOnce { recStart l old with log := [], left := max stop (-1) } (laidS want)).left) := cell_of_row _ _ 3 _ _ _ r8
        have c5 : w8.cell? ⟨h, 5, none⟩ = some (.bool (recOnce { recStart l old with log := [], left := max stop (-1) } (laidS want)).dead) := cell_of_row _ _ 5 _ _ _ r8
        have z3 := frozen_of_row _ _ 3 _ _ r8
        have z5 := frozen_of_row _ _ 5 _ _ r8
        have p8 : w8.cell? ⟨w1.heap.size, 0, none⟩ = some (.pointer (some ⟨h, 0, none⟩)) := cell_of_row _ _ 0 _ _ _ hbox8
        have hl8 := block_lt r8
        have hlb8 := block_lt hbox8
        clear r8 hbox8 hd8
        have HQ9 := Lib.hid (HQ8.out.again (by omega))
        go_wp2_with fail
        have hba := Below.al (Below.rf ((w8.setCell ⟨h, 3, none⟩ (.int .i64 (-1))).setCell ⟨h, 5, none⟩ (.bool false))) (.cells #[.int .i64 (recFault (laidS want) (roomN l)).1, .int .i64 (recFault (laidS want) (roomN l)).2, .int .i64 0] 34)
        have hd2 := hB _ rfl
        refine (rec_once (HQ9.out.below hba) hge hTl (by have := hd2.1; show (recOnce _ _).S.length ≤ _; omega) hd2.2.1 hd2.2.2 hTk (by omega) (by omega) (roomN l) ((recOnce_room _ _).trans HRM.out)).mono ?_
        rintro e w9 ⟨u9, rfl, hq9, hk9, hp9⟩
        have hf9 := (hk9 _ _ _ (heap_new ((w8.setCell ⟨h, 3, none⟩ (.int .i64 (-1))).setCell ⟨h, 5, none⟩ (.bool false)) (.cells #[.int .i64 (recFault (laidS want) (roomN l)).1, .int .i64 (recFault (laidS want) (roomN l)).2, .int .i64 0] 34))).trans (heap_new ((w8.setCell ⟨h, 3, none⟩ (.int .i64 (-1))).setCell ⟨h, 5, none⟩ (.bool false)) (.cells #[.int .i64 (recFault (laidS want) (roomN l)).1, .int .i64 (recFault (laidS want) (roomN l)).2, .int .i64 0] 34))
        rw [size_setCell, size_setCell] at hf9
        clear hk9
        have HP9 := Lib.hid (hp9 w9 (Below.refl _ _))
        have HQA := Lib.hid hq9
        have HNF : Hid (w8.heap.size ≠ w.heap.size) := Lib.hid (by have := HQ8.out.old.size; have := block_lt HQ8.out.res; omega)
        have HNS : Hid (w.heap.size ≤ w8.heap.size) := Lib.hid HQ8.out.old.size
        have HSZ2 := Lib.hid (recAgain_len l old want stop hwl)
        clear hq9 hp9 HQ9 HQ8 hba hd2
        go_wp2_with fail
        refine HP9.out.mono ?_
        rintro e w10 ⟨rfl, hb10⟩
        have HQB := Lib.hid (HQA.out.below hb10)
        have hf10 := (hb10.block _ (block_lt hf9)).trans hf9
        have q0 : w10.cell? ⟨w8.heap.size, 0, none⟩ = some (.int .i64 (recFault (laidS want) (roomN l)).1) := cell_of_row _ _ 0 _ _ _ hf10
        have q1 : w10.cell? ⟨w8.heap.size, 1, none⟩ = some (.int .i64 (recFault (laidS want) (roomN l)).2) := cell_of_row _ _ 1 _ _ _ hf10
        have q2 : w10.cell? ⟨w8.heap.size, 2, none⟩ = some (.int .i64 0) := cell_of_row _ _ 2 _ _ _ hf10
        have y0 := frozen_of_row _ _ 0 _ _ hf10
        have y1 := frozen_of_row _ _ 1 _ _ hf10
        have y2 := frozen_of_row _ _ 2 _ _ hf10
        have hsf := HQB.out.setF hf10 (by have := HNF.out; have := HNS.out; omega) (.int .i64 (recFault (laidS want) (roomN l)).1) (.int .i64 (recFault (laidS want) (roomN l)).2) (.int .i64 0)
        have HQF := Lib.hid hsf.1
        have HFB := Lib.hid hsf.2
        clear hsf
        have HSZF : Hid ((recOnce { (recOnce { recStart l old with log := [], left := max stop (-1) } (laidS want)) with left := -1, dead := false } (laidS want)).S.length ≤ 1000000) := Lib.hid HSZ2.out
        go_upto_region 17 with fail
        generalize ((w10.setCell ⟨w8.heap.size, 0, none⟩ (.int .i64 (recFault (laidS want) (roomN l)).1)).setCell ⟨w8.heap.size, 1, none⟩ (.int .i64 (recFault (laidS want) (roomN l)).2)).setCell ⟨w8.heap.size, 2, none⟩ (.int .i64 0) = wF at *
        obtain ⟨⟨lvF, hdF, -⟩, -, -, -, hrF⟩ := HQF.out
        have rF : wF.heap[h]? = _ := hdF.row
        rw [host_cells] at rF
        have g11 : wF.cell? ⟨h, 11, none⟩ = some lvF := cell_of_row _ _ 11 _ _ _ rF
        have g0 : wF.cell? ⟨w8.heap.size, 0, none⟩ = some (.int .i64 (recFault (laidS want) (roomN l)).1) := cell_of_row _ _ 0 _ _ _ HFB.out
        have g1 : wF.cell? ⟨w8.heap.size, 1, none⟩ = some (.int .i64 (recFault (laidS want) (roomN l)).2) := cell_of_row _ _ 1 _ _ _ HFB.out
        have g2 : wF.cell? ⟨w8.heap.size, 2, none⟩ = some (.int .i64 0) := cell_of_row _ _ 2 _ _ _ HFB.out
        have hlh := block_lt rF
        have hnh : h ≠ w.heap.size := by have := hdF.lo.1; omega
        have hnf : w8.heap.size ≠ w.heap.size := HNF.out
        have hlf := block_lt HFB.out
        have hlr := block_lt hrF
        have HLV := Lib.hid hdF
        have HDU := Lib.hid (fun W (hW : Below wF.heap.size wF W) => hdump_any h _ _ W (hdF.below hW).row (hdF.below hW).tab (by have := HSZF.out; omega))
        have HRF := Lib.hid hrF
        clear rF hdF hrF
        go_region_held3 (fun w' => w'.cell? ⟨h, 11, none⟩ = some lvF ∧ w'.cell? ⟨w8.heap.size, 0, none⟩ = some (.int .i64 (recFault (laidS want) (roomN l)).1) ∧ w'.cell? ⟨w8.heap.size, 1, none⟩ = some (.int .i64 (recFault (laidS want) (roomN l)).2) ∧ w'.cell? ⟨w8.heap.size, 2, none⟩ = some (.int .i64 0))
          (first | exact ⟨g11, g0, g1, g2⟩ | exact ⟨(HBb.out.cell (p := ⟨h, 11, none⟩) hlh).trans g11, (HBb.out.cell (p := ⟨w8.heap.size, 0, none⟩) hlf).trans g0, (HBb.out.cell (p := ⟨w8.heap.size, 1, none⟩) hlf).trans g1, (HBb.out.cell (p := ⟨w8.heap.size, 2, none⟩) hlf).trans g2⟩ | exact ⟨cell_apart3 hnh ((HBb.out.cell (p := ⟨h, 11, none⟩) hlh).trans g11), cell_apart3 hnf ((HBb.out.cell (p := ⟨w8.heap.size, 0, none⟩) hlf).trans g0), cell_apart3 hnf ((HBb.out.cell (p := ⟨w8.heap.size, 1, none⟩) hlf).trans g1), cell_apart3 hnf ((HBb.out.cell (p := ⟨w8.heap.size, 2, none⟩) hlf).trans g2)⟩)
          (first | (go_at_call 64; refine (HDU.out _ (by first | exact Below.rf _ | exact (Below.rf _).drew)).mono ?_; rintro e w11 ⟨v, rfl, he11, hb11⟩; have HBb : Hid (Below wF.heap.size wF w11) := Lib.hid (by first | exact hb11 | exact (Below.rf wF).drew.tn hb11); have HE11 := Lib.hid he11; have R11 := below_at HBb.out hlr HRF.out; have r0 := cell_of_row _ _ 0 _ _ _ R11; have r1 := cell_of_row _ _ 1 _ _ _ R11; have r2 := cell_of_row _ _ 2 _ _ _ R11; have z0 := frozen_of_row _ _ 0 _ _ R11; have z1 := frozen_of_row _ _ 1 _ _ R11; have z2 := frozen_of_row _ _ 2 _ _ R11; have hlR := block_lt R11; clear he11 hb11 R11))
        go_wp2
        obtain ⟨e1, e2, e3, e4⟩ := rec_end HQF.out HLV.out HBb.out HE11.out (recFault (laidS want) (roomN l)).1 (recFault (laidS want) (roomN l)).2 0
        have x0 := cell_of_row _ _ 0 _ _ _ e4
        have x1 := cell_of_row _ _ 1 _ _ _ e4
        have x2 := cell_of_row _ _ 2 _ _ _ e4
        simp only [List.getElem?_toArray, List.getElem?_cons_zero, List.getElem?_cons_succ] at x0 x1 x2
        refine bodyPost_ret (v := .tuple #[v, lvF, .agg #[.int .i64 (recFault (laidS want) (roomN l)).1, .int .i64 (recFault (laidS want) (roomN l)).2, .int .i64 0]]) (by simp [results, Tryz.results17, go_sem, x0, x1, x2]) rfl ⟨v, lvF, rfl, e1, e2, e3⟩
end Go.Proofs.YtkkfmkhbdoeglabGreatDoor
