/- A part of what is proved here: lemmas and contracts of single functions. No condition but those that each names. -/
import Derived.BigRegionIn
import Derived.Maps.AppendAt
import Derived.RangeFuncBox
import Derived.Test.YtkkfmkhbdoeglabGreatDoorG12
import Derived.Test.YtkkfmkhbdoeglabGreatDoorG15
namespace Go.Proofs.YtkkfmkhbdoeglabGreatDoor
open Go.RowKit
theorem eql_entry (a : Int) (c d : List UInt8) (w : World) : (binOp .eql 101 (.agg #[.int .i64 a, .string ⟨c.toArray⟩, .string ⟨d.toArray⟩]) (.agg #[.int .i64 a, .string ⟨c.toArray⟩, .string ⟨d.toArray⟩])).run Tryz.prog w = .ok (.bool true) w := by
  have h1 : (part 3 #[Value.int .i64 a, .string ⟨c.toArray⟩, .string ⟨d.toArray⟩] 0).run Tryz.prog w = .ok (.int .i64 a) w := run_part_plain w (by kernel_rfl) rfl
  have h2 : (part 9 #[Value.int .i64 a, .string ⟨c.toArray⟩, .string ⟨d.toArray⟩] 1).run Tryz.prog w = .ok (.string ⟨c.toArray⟩) w := run_part_plain w (by kernel_rfl) rfl
  have h3 : (part 9 #[Value.int .i64 a, .string ⟨c.toArray⟩, .string ⟨d.toArray⟩] 2).run Tryz.prog w = .ok (.string ⟨d.toArray⟩) w := run_part_plain w (by kernel_rfl) rfl
  have ht : Tryz.prog.underlying 101 = some (.struct (Tryz.prog.fieldsOf 101)) := by kernel_rfl
  have hp : Tryz.prog.stoodInHeld 101 = false := by kernel_rfl
  have hf := TypeDesc.struct.inj (Option.some.inj (ht.symm.trans Tryz.underlying101))
  have k1 : ∀ m (x y : Int), (Op.equalIn (m + 1) 3 (.int .i64 x) (.int .i64 y)).run Tryz.prog w = .ok (x == y) w := fun m x y => by simp [Op.equalIn, run_underlying Tryz.underlying3]
  have k2 : ∀ m (x y : ByteArray), (Op.equalIn (m + 1) 9 (.string x) (.string y)).run Tryz.prog w = .ok (x == y) w := fun m x y => by simp [Op.equalIn, run_underlying Tryz.underlying9]
  have hd : ∀ n, (Op.equalIn (n + 2) 101 (.agg #[.int .i64 a, .string ⟨c.toArray⟩, .string ⟨d.toArray⟩]) (.agg #[.int .i64 a, .string ⟨c.toArray⟩, .string ⟨d.toArray⟩])).run Tryz.prog w = .ok true w := by
    intro n
    rw [run_equalIn_agg w (n + 1) 101 _ _ ht hp, hf]
    simp only [Op.eqFields]
    rw [if_pos (by decide), if_pos (by decide), if_pos (by decide)]
    have hb : ((⟨c.toArray⟩ : ByteArray) == ⟨c.toArray⟩) = true := (MapKept.bytes_beq _ _).2 rfl
    have hb' : ((⟨d.toArray⟩ : ByteArray) == ⟨d.toArray⟩) = true := (MapKept.bytes_beq _ _).2 rfl
    simp [Sem.run_bind, h1, h2, h3, k1, k2, Result.andThen_ok, hb, hb']
  have hh := hd 9998
  simp only [binOp]
  simp [Op.equal, Op.maxDepth, hh]
/-- the world behind one call -/
def listedW (wa : World) (bo bi bn k : Nat) (b : Bool) : World := ((wa.drew.setCell ⟨bo, 0, none⟩ (.bool true)).setCell ⟨bi, 0, none⟩ (.int .i64 ((k + 1 : Nat) : Int))).setCell ⟨bn, 0, none⟩ (.bool b)
set_option maxRecDepth 100000 in
set_option maxHeartbeats 2000000 in
theorem listed1_any (bo bn bi bl k : Nat) (v : Value) (l : List E) (w : World) (ho : w.cell? ⟨bo, 0, none⟩ = some (.bool true)) (hn : w.cell? ⟨bn, 0, none⟩ = some (.bool false)) (hi : w.cell? ⟨bi, 0, none⟩ = some (.int .i64 (k : Int))) (hlc : w.cell? ⟨bl, 0, none⟩ = some v)
    (fo : w.frozen? ⟨bo, 0, none⟩ = false) (fn : w.frozen? ⟨bn, 0, none⟩ = false) (fi : w.frozen? ⟨bi, 0, none⟩ = false) (he : EntsAt w v l) (hk : k < l.length) (hl : l.length ≤ 1000000000)
    (h1 : bo ≠ bn) (h2 : bo ≠ bi) (h3 : bo ≠ bl) (h4 : bn ≠ bi) (h5 : bn ≠ bl) (h6 : bi ≠ bl) :
    Calls Tryz.prog 134 #[.agg #[.int .i64 l[k].1.1, .string ⟨l[k].1.2.toArray⟩], .string ⟨l[k].2.toArray⟩, .pointer (some ⟨bo, 0, none⟩), .pointer (some ⟨bn, 0, none⟩), .pointer (some ⟨bi, 0, none⟩), .pointer (some ⟨bl, 0, none⟩)] w fun e w' =>
      e = .returned (.bool (!decide (l.length / 2 < k + 1))) ∧
      ∃ wa, Hid (wa = w.alloc (.cells #[.int .i64 l[k].1.1, .string ⟨l[k].1.2.toArray⟩] 103)) ∧ w' = listedW wa bo bi bn k (decide (l.length / 2 < k + 1)) := by
  obtain ⟨a, cap, rfl, -, hx⟩ := he.opened
  obtain ⟨b, o, rfl, c0, c1, c2⟩ := hx k hk
  generalize l[k] = x at *
  obtain ⟨⟨T, KB⟩, VB⟩ := x
  simp only at c0 c1 c2 ⊢
  clear hx he
  go_enter Tryz.func134, Tryz.ntmps134
  go_wp2
  have g1 : (k : Int) < l.length := by omega
  have g0 : (0 : Int) ≤ k := by omega
  have hal : Below w.heap.size w (w.alloc (.cells #[.int .i64 T, .string ⟨KB.toArray⟩] 103)) := (Below.refl _ w).alloc (Nat.le_refl _) _
  have hnew := heap_new w (.cells #[.int .i64 T, .string ⟨KB.toArray⟩] 103)
  have lo := cell_lt ho
  have ln := cell_lt hn
  have li := cell_lt hi
  have ll := cell_lt hlc
  have lb := cell_lt c0
  have ho' := (hal.cell (p := ⟨bo, 0, none⟩) lo).trans ho
  have hn' := (hal.cell (p := ⟨bn, 0, none⟩) ln).trans hn
  have hi' := (hal.cell (p := ⟨bi, 0, none⟩) li).trans hi
  have hl' := (hal.cell (p := ⟨bl, 0, none⟩) ll).trans hlc
  have d0 := (hal.cell (p := ⟨b, o + k * 3, none⟩) lb).trans c0
  have d1 := (hal.cell (p := ⟨b, o + k * 3 + 1, none⟩) lb).trans c1
  have d2 := (hal.cell (p := ⟨b, o + k * 3 + 2, none⟩) lb).trans c2
  have fo' : (w.alloc (.cells #[.int .i64 T, .string ⟨KB.toArray⟩] 103)).frozen? ⟨bo, 0, none⟩ = false := by
    rw [← fo]; exact World.frozen?_of_block (a := ⟨bo, 0, none⟩) (hal.block bo lo)
  have fn' : (w.alloc (.cells #[.int .i64 T, .string ⟨KB.toArray⟩] 103)).frozen? ⟨bn, 0, none⟩ = false := by
    rw [← fn]; exact World.frozen?_of_block (a := ⟨bn, 0, none⟩) (hal.block bn ln)
  have fi' : (w.alloc (.cells #[.int .i64 T, .string ⟨KB.toArray⟩] 103)).frozen? ⟨bi, 0, none⟩ = false := by
    rw [← fi]; exact World.frozen?_of_block (a := ⟨bi, 0, none⟩) (hal.block bi li)
  have k0 := cell_of_row _ _ 0 _ _ _ hnew
  have k1 := cell_of_row _ _ 1 _ _ _ hnew
  generalize hwa : w.alloc (.cells #[.int .i64 T, .string ⟨KB.toArray⟩] 103) = wa at *
  have HWA : Hid (wa = w.alloc (.cells #[.int .i64 T, .string ⟨KB.toArray⟩] 103)) := Lib.hid hwa.symm
  clear hwa
  clear hal hnew ho hn hi hlc c0 c1 c2 fo fn fi
  have hq := fun w => eql_entry T KB VB w
  refine wp_region_still_tail 24 (by kernel_rfl) (by kernel_rfl) ?_
  simp only [List.take_succ_cons, List.take_zero, List.drop_succ_cons, List.drop_zero]
  repeat still_step
  refine wpStill_nil ?_
  have hk1 : wrap64 ((k : Int) + 1) = (k : Int) + 1 := IntWalk.wrap64_in _ (by omega)
  cases hd : decide (l.length / 2 < k + 1) with
  | true =>
    have hd' : (l.length : Int) / 2 < (k : Int) + 1 := by have := of_decide_eq_true hd; omega
    have HD := Lib.hid hd
    clear hd
    go_wp2
    go_ret
    exact ⟨by rw [HD.out]; rfl, wa, HWA, by rw [HD.out]; rfl⟩
  | false =>
    have hd' : ¬ (l.length : Int) / 2 < (k : Int) + 1 := by have := of_decide_eq_false hd; omega
    have HD := Lib.hid hd
    clear hd
    go_wp2
    go_ret
    exact ⟨by rw [HD.out]; rfl, wa, HWA, by rw [HD.out]; rfl⟩
end Go.Proofs.YtkkfmkhbdoeglabGreatDoor
namespace Go.Proofs.YtkkfmkhbdoeglabGreatDoor
open Go.RowKit Go.Shelf
theorem box_ne {X : World} {a b : Nat} {t t' : TypeId} {u u' : Value} (h : Boxed X a t u) (k : Boxed X b t' u') (ht : t ≠ t') : a ≠ b := by
  rintro rfl
  have := (show X.heap[a]? = _ from h).symm.trans k
  cases this
  exact ht rfl
/-- the boxes of listed's variables ok, no, n, l -/
structure ListedV (w : World) (bo bn bi bl D : Nat) (v : Value) (S : List E) (vo vn vi : Value) (X : World) : Prop where
  ok : Boxed X bo 4 vo
  no : Boxed X bn 4 vn
  n : Boxed X bi 3 vi
  l : Boxed X bl 23 v
  row : X.ownsRow w.heap.size 101 3 v S.length (entCells S)
  defer : X.heap[D]? = some (.deferred (some []))
  below : Below w.heap.size w X
  ne : bo ≠ bn
  lo : w.heap.size ≤ bo ∧ w.heap.size ≤ bn ∧ w.heap.size ≤ bi
section
variable {w : World} {bo bn bi bl D : Nat} {v : Value} {S : List E} {vo vn vi : Value} {A B : World}
theorem ListedV.grown (h : ListedV w bo bn bi bl D v S vo vn vi A) (hg : A.grownBy B none) : ListedV w bo bn bi bl D v S vo vn vi B :=
  ⟨h.ok.kept hg (by simp), h.no.kept hg (by simp), h.n.kept hg (by simp), h.l.kept hg (by simp), h.row.kept hg (by
    rcases h.row.2 with ⟨rfl, _⟩ | ⟨g, cap, cur, rfl, _⟩
    · exact .inl rfl
    · exact .inr (by simp [Value.ownBlock])), (hg.block D (block_lt h.defer) (by simp)).trans h.defer, h.below.grown hg h.below.size (fun k e => by cases e), h.ne, h.lo⟩
theorem ListedV.notD {t : TypeId} {u : Value} {b : Nat} (h : ListedV w bo bn bi bl D v S vo vn vi A) (hb : Boxed A b t u) : D ≠ b := by
  rintro rfl
  have := h.defer.symm.trans hb
  cases this
theorem ListedV.setO (h : ListedV w bo bn bi bl D v S vo vn vi A) (u : Value) : ListedV w bo bn bi bl D v S u vn vi (A.setCell ⟨bo, 0, none⟩ u) := by
  have hg := grownBy_setCell' A bo u
  exact ⟨h.ok.set u, h.no.kept hg (by simpa using h.ne.symm), h.n.kept hg (by simpa using box_ne h.n h.ok (by decide)), h.l.kept hg (by simpa using box_ne h.l h.ok (by decide)),
    h.row.kept hg (.inr (h.ok.not_row (by decide) h.row).symm), (Below.heap_setCell _ _ _ D (h.notD h.ok)).trans h.defer, h.below.setCell (p := ⟨bo, 0, none⟩) h.lo.1 u, h.ne, h.lo⟩
theorem ListedV.setN (h : ListedV w bo bn bi bl D v S vo vn vi A) (u : Value) : ListedV w bo bn bi bl D v S vo u vi (A.setCell ⟨bn, 0, none⟩ u) := by
  have hg := grownBy_setCell' A bn u
  exact ⟨h.ok.kept hg (by simpa using h.ne), h.no.set u, h.n.kept hg (by simpa using box_ne h.n h.no (by decide)), h.l.kept hg (by simpa using box_ne h.l h.no (by decide)),
    h.row.kept hg (.inr (h.no.not_row (by decide) h.row).symm), (Below.heap_setCell _ _ _ D (h.notD h.no)).trans h.defer, h.below.setCell (p := ⟨bn, 0, none⟩) h.lo.2.1 u, h.ne, h.lo⟩
theorem ListedV.setI (h : ListedV w bo bn bi bl D v S vo vn vi A) (u : Value) : ListedV w bo bn bi bl D v S vo vn u (A.setCell ⟨bi, 0, none⟩ u) := by
  have hg := grownBy_setCell' A bi u
  exact ⟨h.ok.kept hg (by simpa using box_ne h.ok h.n (by decide)), h.no.kept hg (by simpa using box_ne h.no h.n (by decide)), h.n.set u, h.l.kept hg (by simpa using box_ne h.l h.n (by decide)),
    h.row.kept hg (.inr (h.n.not_row (by decide) h.row).symm), (Below.heap_setCell _ _ _ D (h.notD h.n)).trans h.defer, h.below.setCell (p := ⟨bi, 0, none⟩) h.lo.2.2 u, h.ne, h.lo⟩
end
theorem ents_of_row {X : World} {base : Nat} {v : Value} {S : List E} (h : X.ownsRow base 101 3 v S.length (entCells S)) : EntsAt X v S := by
  obtain ⟨hl, ⟨rfl, h0⟩ | ⟨g, cap, cur, rfl, hg, hgb, hn, hc, hcs, htk⟩⟩ := h
  · obtain rfl : S = [] := List.eq_nil_of_length_eq_zero h0
    exact SliceAt.nil X none 3 0
  · refine ⟨hl, _, cap, rfl, hn, fun i hi => ⟨g, 0, rfl, ?_⟩⟩
    have hi' : i < S.length * 3 := by rw [hl] at hi; exact hi
    rw [Nat.zero_add, cell_of_row X g i cur _ _ hgb, ← Array.getElem?_toList, ← List.getElem?_eq_getElem hi, ← htk, List.getElem?_take_of_lt hi']
theorem listedW_heap (X : World) (o : Obj) (bo bi bn k : Nat) (b : Bool) (j : Nat) (hj : j < X.heap.size) (h1 : j ≠ bo) (h2 : j ≠ bi) (h3 : j ≠ bn) : (listedW (X.alloc o) bo bi bn k b).heap[j]? = X.heap[j]? := by
  unfold listedW
  rw [Below.heap_setCell _ _ _ j h3, Below.heap_setCell _ _ _ j h2, Below.heap_setCell _ _ _ j h1]
  exact ((Below.refl X.heap.size X).alloc (Nat.le_refl _) o).block j hj
theorem listedW_size (X : World) (o : Obj) (bo bi bn k : Nat) (b : Bool) : (listedW (X.alloc o) bo bi bn k b).heap.size = X.heap.size + 1 := by
  unfold listedW
  rw [size_setCell, size_setCell, size_setCell]
  exact World.size_alloc X o
theorem ListedV.call {w : World} {bo bn bi bl D : Nat} {v : Value} {S pre : List E} {x : E} {X : World} {Bm q r : Nat} (h : ListedV w bo bn bi bl D v S (.bool true) (.bool false) (.int .i64 (pre.length : Int)) X) (hp : pre ++ [x] <+: S) (hS : S.length ≤ 1000000000)
    (h1 : Bm < w.heap.size) (h2 : q < w.heap.size) (h3 : r < w.heap.size) :
    Calls Tryz.prog 134 (#[kV x.1, .string ⟨x.2.toArray⟩] ++ #[.pointer (some ⟨bo, 0, none⟩), .pointer (some ⟨bn, 0, none⟩), .pointer (some ⟨bi, 0, none⟩), .pointer (some ⟨bl, 0, none⟩)]) X fun e W' =>
      (e = .returned (.bool true) ∧ ListedV w bo bn bi bl D v S (.bool true) (.bool false) (.int .i64 ((pre ++ [x]).length : Int)) W' ∧ KeepsE Bm q r X W') ∨
      (e = .returned (.bool false) ∧ ∃ vn vi, ListedV w bo bn bi bl D v S (.bool true) vn vi W') := by
  have hk : pre.length < S.length := by have := hp.length_le; simp at this; omega
  have hx : S[pre.length] = x := by
    obtain ⟨t, rfl⟩ := hp
    simp
  have H := listed1_any bo bn bi bl pre.length v S X h.ok.cell h.no.cell h.n.cell h.l.cell h.ok.frozen h.no.frozen h.n.frozen (ents_of_row h.row) hk hS h.ne (box_ne h.ok h.n (by decide)) (box_ne h.ok h.l (by decide)) (box_ne h.no h.n (by decide)) (box_ne h.no h.l (by decide)) (box_ne h.n h.l (by decide))
  rw [hx] at H
  refine H.mono ?_
  rintro e W' ⟨rfl, wa, ⟨rfl⟩, rfl⟩
  have hl := ((h.grown (World.grownBy_alloc X (.cells #[.int .i64 x.1.1, .string ⟨x.1.2.toArray⟩] 103) none)).grown (B := (X.alloc (.cells #[.int .i64 x.1.1, .string ⟨x.1.2.toArray⟩] 103)).drew) ⟨rfl, rfl, rfl, Nat.le_refl _, fun _ _ _ => rfl⟩)
  have hl := ((hl.setO (.bool true)).setI (.int .i64 ((pre.length + 1 : Nat) : Int))).setN (.bool (decide (S.length / 2 < pre.length + 1)))
  have hlo := h.lo
  have hsz := h.below.size
  have hke : KeepsE Bm q r X (listedW (X.alloc (.cells #[.int .i64 x.1.1, .string ⟨x.1.2.toArray⟩] 103)) bo bi bn pre.length (decide (S.length / 2 < pre.length + 1))) := by
    refine ⟨Nat.le_trans (Nat.le_succ _) (Nat.le_of_eq (listedW_size X _ bo bi bn _ _).symm), fun j hj => ?_, fun j cs fz hj => ?_⟩
    · exact listedW_heap X _ bo bi bn _ _ j (by rcases hj with rfl | rfl | rfl <;> omega) (by rcases hj with rfl | rfl | rfl <;> omega) (by rcases hj with rfl | rfl | rfl <;> omega) (by rcases hj with rfl | rfl | rfl <;> omega)
    · refine (listedW_heap X _ bo bi bn _ _ j (block_lt hj) ?_ ?_ ?_).trans hj
      · rintro rfl; have := hj.symm.trans h.ok; cases this
      · rintro rfl; have := hj.symm.trans h.n; cases this
      · rintro rfl; have := hj.symm.trans h.no; cases this
  cases hd : decide (S.length / 2 < pre.length + 1) with
  | true => exact .inr ⟨rfl, _, _, by rw [hd] at hl; exact hl⟩
  | false => exact .inl ⟨rfl, by rw [hd] at hl; rw [List.length_append]; exact hl, by rw [hd] at hke; exact hke⟩
end Go.Proofs.YtkkfmkhbdoeglabGreatDoor
namespace Go.Proofs.YtkkfmkhbdoeglabGreatDoor
open Go.RowKit Go.Shelf
attribute [local go_sem] Oper.semAt_some
end Go.Proofs.YtkkfmkhbdoeglabGreatDoor
