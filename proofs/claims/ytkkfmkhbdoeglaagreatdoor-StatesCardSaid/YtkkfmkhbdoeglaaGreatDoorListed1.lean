/- The contract of the function that package plain's listed hands to an iterator. No condition. -/
import Derived.Test.YtkkfmkhbdoeglaaGreatDoorEntries
import Derived.Test.YtkkfmkhbdoeglaaGreatDoorSameE
import Derived.RangeFuncBox
import Derived.Maps.AppendAt
import Derived.BigRegionIn
namespace Go.Proofs.YtkkfmkhbdoeglaaGreatDoor
open Go.RowKit

theorem eql_entry (a : Int) (c d : List UInt8) (w : World) : (binOp .eql 123 (.agg #[.int .i64 a, .string ⟨c.toArray⟩, .string ⟨d.toArray⟩]) (.agg #[.int .i64 a, .string ⟨c.toArray⟩, .string ⟨d.toArray⟩])).run Tryz.prog w = .ok (.bool true) w := by
  have h1 : (part 3 #[Value.int .i64 a, .string ⟨c.toArray⟩, .string ⟨d.toArray⟩] 0).run Tryz.prog w = .ok (.int .i64 a) w := run_part_plain w (by kernel_rfl) rfl
  have h2 : (part 9 #[Value.int .i64 a, .string ⟨c.toArray⟩, .string ⟨d.toArray⟩] 1).run Tryz.prog w = .ok (.string ⟨c.toArray⟩) w := run_part_plain w (by kernel_rfl) rfl
  have h3 : (part 9 #[Value.int .i64 a, .string ⟨c.toArray⟩, .string ⟨d.toArray⟩] 2).run Tryz.prog w = .ok (.string ⟨d.toArray⟩) w := run_part_plain w (by kernel_rfl) rfl
  have ht : Tryz.prog.underlying 123 = some (.struct (Tryz.prog.fieldsOf 123)) := by kernel_rfl
  have hp : Tryz.prog.stoodInHeld 123 = false := by kernel_rfl
  have hf := TypeDesc.struct.inj (Option.some.inj (ht.symm.trans Tryz.underlying123))
  have k1 : ∀ m (x y : Int), (Op.equalIn (m + 1) 3 (.int .i64 x) (.int .i64 y)).run Tryz.prog w = .ok (x == y) w := fun m x y => by simp [Op.equalIn, run_underlying Tryz.underlying3]
  have k2 : ∀ m (x y : ByteArray), (Op.equalIn (m + 1) 9 (.string x) (.string y)).run Tryz.prog w = .ok (x == y) w := fun m x y => by simp [Op.equalIn, run_underlying Tryz.underlying9]
  have hd : ∀ n, (Op.equalIn (n + 2) 123 (.agg #[.int .i64 a, .string ⟨c.toArray⟩, .string ⟨d.toArray⟩]) (.agg #[.int .i64 a, .string ⟨c.toArray⟩, .string ⟨d.toArray⟩])).run Tryz.prog w = .ok true w := by
    intro n
    rw [run_equalIn_agg w (n + 1) 123 _ _ ht hp, hf]
    simp only [Op.eqFields]
    rw [if_pos (by decide), if_pos (by decide), if_pos (by decide)]
    have hb : ((⟨c.toArray⟩ : ByteArray) == ⟨c.toArray⟩) = true := (MapKept.bytes_beq _ _).2 rfl
    have hb' : ((⟨d.toArray⟩ : ByteArray) == ⟨d.toArray⟩) = true := (MapKept.bytes_beq _ _).2 rfl
    simp [Sem.run_bind, h1, h2, h3, k1, k2, Result.andThen_ok, hb, hb']
  have hh := hd 9998
  simp only [binOp]
  simp [Op.equal, Op.maxDepth, hh]
/-- the world behind one call -/
def listedW (wa : World) (bo bi bn k : Nat) (b : Bool) : World := ((wa.drew.setCell ⟨bo, 0, none⟩ (.bool true)).setCell ⟨bi, 0, none⟩ (.int .i64 ((k + 1 : Nat) : Int))).setCell ⟨bn, 0, none⟩ (.bool b)
set_option maxRecDepth 100000 in
set_option maxHeartbeats 2000000 in
theorem listed1_any (bo bn bi bl k : Nat) (v : Value) (l : List E) (w : World) (ho : w.cell? ⟨bo, 0, none⟩ = some (.bool true)) (hn : w.cell? ⟨bn, 0, none⟩ = some (.bool false)) (hi : w.cell? ⟨bi, 0, none⟩ = some (.int .i64 (k : Int))) (hlc : w.cell? ⟨bl, 0, none⟩ = some v)
    (fo : w.frozen? ⟨bo, 0, none⟩ = false) (fn : w.frozen? ⟨bn, 0, none⟩ = false) (fi : w.frozen? ⟨bi, 0, none⟩ = false) (he : EntsAt w v l) (hk : k < l.length) (hl : l.length ≤ 1000000000)
    (h1 : bo ≠ bn) (h2 : bo ≠ bi) (h3 : bo ≠ bl) (h4 : bn ≠ bi) (h5 : bn ≠ bl) (h6 : bi ≠ bl) :
    Calls Tryz.prog 89 #[.agg #[.int .i64 l[k].1.1, .string ⟨l[k].1.2.toArray⟩], .string ⟨l[k].2.toArray⟩, .pointer (some ⟨bo, 0, none⟩), .pointer (some ⟨bn, 0, none⟩), .pointer (some ⟨bi, 0, none⟩), .pointer (some ⟨bl, 0, none⟩)] w fun e w' =>
      e = .returned (.bool (!decide (l.length / 2 < k + 1))) ∧
      ∃ wa, Hid (wa = w.alloc (.cells #[.int .i64 l[k].1.1, .string ⟨l[k].1.2.toArray⟩] 94)) ∧ w' = listedW wa bo bi bn k (decide (l.length / 2 < k + 1)) := by
  obtain ⟨a, cap, rfl, -, hx⟩ := he.opened
  obtain ⟨b, o, rfl, c0, c1, c2⟩ := hx k hk
  generalize l[k] = x at *
  obtain ⟨⟨T, KB⟩, VB⟩ := x
  simp only at c0 c1 c2 ⊢
  clear hx he
  go_enter Tryz.func89, Tryz.ntmps89
  go_wp2
  have g1 : (k : Int) < l.length := by omega
  have g0 : (0 : Int) ≤ k := by omega
  have hal : Below w.heap.size w (w.alloc (.cells #[.int .i64 T, .string ⟨KB.toArray⟩] 94)) := (Below.refl _ w).alloc (Nat.le_refl _) _
  have hnew := heap_new w (.cells #[.int .i64 T, .string ⟨KB.toArray⟩] 94)
  have lo := cell_lt ho
  have ln := cell_lt hn
  have li := cell_lt hi
  have ll := cell_lt hlc
  have lb := cell_lt c0
  have ho' := (hal.cell (p := ⟨bo, 0, none⟩) lo).trans ho
  have hn' := (hal.cell (p := ⟨bn, 0, none⟩) ln).trans hn
  have hi' := (hal.cell (p := ⟨bi, 0, none⟩) li).trans hi
  have hl' := (hal.cell (p := ⟨bl, 0, none⟩) ll).trans hlc
  have d0 := (hal.cell (p := ⟨b, o + k * 3, none⟩) lb).trans c0
  have d1 := (hal.cell (p := ⟨b, o + k * 3 + 1, none⟩) lb).trans c1
  have d2 := (hal.cell (p := ⟨b, o + k * 3 + 2, none⟩) lb).trans c2
  have fo' : (w.alloc (.cells #[.int .i64 T, .string ⟨KB.toArray⟩] 94)).frozen? ⟨bo, 0, none⟩ = false := by
    rw [← fo]; exact World.frozen?_of_block (a := ⟨bo, 0, none⟩) (hal.block bo lo)
  have fn' : (w.alloc (.cells #[.int .i64 T, .string ⟨KB.toArray⟩] 94)).frozen? ⟨bn, 0, none⟩ = false := by
    rw [← fn]; exact World.frozen?_of_block (a := ⟨bn, 0, none⟩) (hal.block bn ln)
  have fi' : (w.alloc (.cells #[.int .i64 T, .string ⟨KB.toArray⟩] 94)).frozen? ⟨bi, 0, none⟩ = false := by
    rw [← fi]; exact World.frozen?_of_block (a := ⟨bi, 0, none⟩) (hal.block bi li)
  have k0 := cell_of_row _ _ 0 _ _ _ hnew
  have k1 := cell_of_row _ _ 1 _ _ _ hnew
  generalize hwa : w.alloc (.cells #[.int .i64 T, .string ⟨KB.toArray⟩] 94) = wa at *
  have HWA : Hid (wa = w.alloc (.cells #[.int .i64 T, .string ⟨KB.toArray⟩] 94)) := Lib.hid hwa.symm
  clear hwa
  clear hal hnew ho hn hi hlc c0 c1 c2 fo fn fi
  have hq := fun w => eql_entry T KB VB w
  refine wp_region_still_tail 24 (by kernel_rfl) (by kernel_rfl) ?_
  simp only [List.take_succ_cons, List.take_zero, List.drop_succ_cons, List.drop_zero]
  repeat still_step
  refine wpStill_nil ?_
  have hk1 : wrap64 ((k : Int) + 1) = (k : Int) + 1 := IntWalk.wrap64_in _ (by omega)
  cases hd : decide (l.length / 2 < k + 1) with
  | true =>
    have hd' : (l.length : Int) / 2 < (k : Int) + 1 := by have := of_decide_eq_true hd; omega
    have HD := Lib.hid hd
    clear hd
    go_wp2
    go_ret
    exact ⟨by rw [HD.out]; rfl, wa, HWA, by rw [HD.out]; rfl⟩
  | false =>
    have hd' : ¬ (l.length : Int) / 2 < (k : Int) + 1 := by have := of_decide_eq_false hd; omega
    have HD := Lib.hid hd
    clear hd
    go_wp2
    go_ret
    exact ⟨by rw [HD.out]; rfl, wa, HWA, by rw [HD.out]; rfl⟩
end Go.Proofs.YtkkfmkhbdoeglaaGreatDoor

/- What holds between two calls of the function that package plain's listed hands to an iterator. No condition. -/
namespace Go.Proofs.YtkkfmkhbdoeglaaGreatDoor
open Go.RowKit Go.Shelf

theorem box_ne {X : World} {a b : Nat} {t t' : TypeId} {u u' : Value} (h : Boxed X a t u) (k : Boxed X b t' u') (ht : t ≠ t') : a ≠ b := by
  rintro rfl
  have := (show X.heap[a]? = _ from h).symm.trans k
  cases this
  exact ht rfl
/-- the boxes of listed's variables ok, no, n, l -/
structure ListedV (w : World) (bo bn bi bl D : Nat) (v : Value) (S : List E) (vo vn vi : Value) (X : World) : Prop where
  ok : Boxed X bo 4 vo
  no : Boxed X bn 4 vn
  n : Boxed X bi 3 vi
  l : Boxed X bl 43 v
  row : X.ownsRow w.heap.size 123 3 v S.length (entCells S)
  defer : X.heap[D]? = some (.deferred (some []))
  below : Below w.heap.size w X
  ne : bo ≠ bn
  lo : w.heap.size ≤ bo ∧ w.heap.size ≤ bn ∧ w.heap.size ≤ bi
section
variable {w : World} {bo bn bi bl D : Nat} {v : Value} {S : List E} {vo vn vi : Value} {A B : World}
theorem ListedV.grown (h : ListedV w bo bn bi bl D v S vo vn vi A) (hg : A.grownBy B none) : ListedV w bo bn bi bl D v S vo vn vi B :=
  ⟨h.ok.kept hg (by simp), h.no.kept hg (by simp), h.n.kept hg (by simp), h.l.kept hg (by simp), h.row.kept hg (by
    rcases h.row.2 with ⟨rfl, _⟩ | ⟨g, cap, cur, rfl, _⟩
    · exact .inl rfl
    · exact .inr (by simp [Value.ownBlock])), (hg.block D (block_lt h.defer) (by simp)).trans h.defer, h.below.grown hg h.below.size (fun k e => by cases e), h.ne, h.lo⟩
theorem ListedV.notD {t : TypeId} {u : Value} {b : Nat} (h : ListedV w bo bn bi bl D v S vo vn vi A) (hb : Boxed A b t u) : D ≠ b := by
  rintro rfl
  have := h.defer.symm.trans hb
  cases this
theorem ListedV.setO (h : ListedV w bo bn bi bl D v S vo vn vi A) (u : Value) : ListedV w bo bn bi bl D v S u vn vi (A.setCell ⟨bo, 0, none⟩ u) := by
  have hg := grownBy_setCell' A bo u
  exact ⟨h.ok.set u, h.no.kept hg (by simpa using h.ne.symm), h.n.kept hg (by simpa using box_ne h.n h.ok (by decide)), h.l.kept hg (by simpa using box_ne h.l h.ok (by decide)),
    h.row.kept hg (.inr (h.ok.not_row (by decide) h.row).symm), (Below.heap_setCell _ _ _ D (h.notD h.ok)).trans h.defer, h.below.setCell (p := ⟨bo, 0, none⟩) h.lo.1 u, h.ne, h.lo⟩
theorem ListedV.setN (h : ListedV w bo bn bi bl D v S vo vn vi A) (u : Value) : ListedV w bo bn bi bl D v S vo u vi (A.setCell ⟨bn, 0, none⟩ u) := by
  have hg := grownBy_setCell' A bn u
  exact ⟨h.ok.kept hg (by simpa using h.ne), h.no.set u, h.n.kept hg (by simpa using box_ne h.n h.no (by decide)), h.l.kept hg (by simpa using box_ne h.l h.no (by decide)),
    h.row.kept hg (.inr (h.no.not_row (by decide) h.row).symm), (Below.heap_setCell _ _ _ D (h.notD h.no)).trans h.defer, h.below.setCell (p := ⟨bn, 0, none⟩) h.lo.2.1 u, h.ne, h.lo⟩
theorem ListedV.setI (h : ListedV w bo bn bi bl D v S vo vn vi A) (u : Value) : ListedV w bo bn bi bl D v S vo vn u (A.setCell ⟨bi, 0, none⟩ u) := by
  have hg := grownBy_setCell' A bi u
  exact ⟨h.ok.kept hg (by simpa using box_ne h.ok h.n (by decide)), h.no.kept hg (by simpa using box_ne h.no h.n (by decide)), h.n.set u, h.l.kept hg (by simpa using box_ne h.l h.n (by decide)),
    h.row.kept hg (.inr (h.n.not_row (by decide) h.row).symm), (Below.heap_setCell _ _ _ D (h.notD h.n)).trans h.defer, h.below.setCell (p := ⟨bi, 0, none⟩) h.lo.2.2 u, h.ne, h.lo⟩
end
theorem ents_of_row {X : World} {base : Nat} {v : Value} {S : List E} (h : X.ownsRow base 123 3 v S.length (entCells S)) : EntsAt X v S := by
  obtain ⟨hl, ⟨rfl, h0⟩ | ⟨g, cap, cur, rfl, hg, hgb, hn, hc, hcs, htk⟩⟩ := h
  · obtain rfl : S = [] := List.eq_nil_of_length_eq_zero h0
    exact SliceAt.nil X none 3 0
  · refine ⟨hl, _, cap, rfl, hn, fun i hi => ⟨g, 0, rfl, ?_⟩⟩
    have hi' : i < S.length * 3 := by rw [hl] at hi; exact hi
    rw [Nat.zero_add, cell_of_row X g i cur _ _ hgb, ← Array.getElem?_toList, ← List.getElem?_eq_getElem hi, ← htk, List.getElem?_take_of_lt hi']
theorem listedW_heap (X : World) (o : Obj) (bo bi bn k : Nat) (b : Bool) (j : Nat) (hj : j < X.heap.size) (h1 : j ≠ bo) (h2 : j ≠ bi) (h3 : j ≠ bn) : (listedW (X.alloc o) bo bi bn k b).heap[j]? = X.heap[j]? := by
  unfold listedW
  rw [Below.heap_setCell _ _ _ j h3, Below.heap_setCell _ _ _ j h2, Below.heap_setCell _ _ _ j h1]
  exact ((Below.refl X.heap.size X).alloc (Nat.le_refl _) o).block j hj
theorem listedW_size (X : World) (o : Obj) (bo bi bn k : Nat) (b : Bool) : (listedW (X.alloc o) bo bi bn k b).heap.size = X.heap.size + 1 := by
  unfold listedW
  rw [size_setCell, size_setCell, size_setCell]
  exact World.size_alloc X o
theorem ListedV.call {w : World} {bo bn bi bl D : Nat} {v : Value} {S pre : List E} {x : E} {X : World} {Bm q r : Nat} (h : ListedV w bo bn bi bl D v S (.bool true) (.bool false) (.int .i64 (pre.length : Int)) X) (hp : pre ++ [x] <+: S) (hS : S.length ≤ 1000000000)
    (h1 : Bm < w.heap.size) (h2 : q < w.heap.size) (h3 : r < w.heap.size) :
    Calls Tryz.prog 89 (#[kV x.1, .string ⟨x.2.toArray⟩] ++ #[.pointer (some ⟨bo, 0, none⟩), .pointer (some ⟨bn, 0, none⟩), .pointer (some ⟨bi, 0, none⟩), .pointer (some ⟨bl, 0, none⟩)]) X fun e W' =>
      (e = .returned (.bool true) ∧ ListedV w bo bn bi bl D v S (.bool true) (.bool false) (.int .i64 ((pre ++ [x]).length : Int)) W' ∧ KeepsE Bm q r X W') ∨
      (e = .returned (.bool false) ∧ ∃ vn vi, ListedV w bo bn bi bl D v S (.bool true) vn vi W') := by
  have hk : pre.length < S.length := by have := hp.length_le; simp at this; omega
  have hx : S[pre.length] = x := by
    obtain ⟨t, rfl⟩ := hp
    simp
  have H := listed1_any bo bn bi bl pre.length v S X h.ok.cell h.no.cell h.n.cell h.l.cell h.ok.frozen h.no.frozen h.n.frozen (ents_of_row h.row) hk hS h.ne (box_ne h.ok h.n (by decide)) (box_ne h.ok h.l (by decide)) (box_ne h.no h.n (by decide)) (box_ne h.no h.l (by decide)) (box_ne h.n h.l (by decide))
  rw [hx] at H
  refine H.mono ?_
  rintro e W' ⟨rfl, wa, ⟨rfl⟩, rfl⟩
  have hl := ((h.grown (World.grownBy_alloc X (.cells #[.int .i64 x.1.1, .string ⟨x.1.2.toArray⟩] 94) none)).grown (B := (X.alloc (.cells #[.int .i64 x.1.1, .string ⟨x.1.2.toArray⟩] 94)).drew) ⟨rfl, rfl, rfl, Nat.le_refl _, fun _ _ _ => rfl⟩)
  have hl := ((hl.setO (.bool true)).setI (.int .i64 ((pre.length + 1 : Nat) : Int))).setN (.bool (decide (S.length / 2 < pre.length + 1)))
  have hlo := h.lo
  have hsz := h.below.size
  have hke : KeepsE Bm q r X (listedW (X.alloc (.cells #[.int .i64 x.1.1, .string ⟨x.1.2.toArray⟩] 94)) bo bi bn pre.length (decide (S.length / 2 < pre.length + 1))) := by
    refine ⟨Nat.le_trans (Nat.le_succ _) (Nat.le_of_eq (listedW_size X _ bo bi bn _ _).symm), fun j hj => ?_, fun j cs fz hj => ?_⟩
    · exact listedW_heap X _ bo bi bn _ _ j (by rcases hj with rfl | rfl | rfl <;> omega) (by rcases hj with rfl | rfl | rfl <;> omega) (by rcases hj with rfl | rfl | rfl <;> omega) (by rcases hj with rfl | rfl | rfl <;> omega)
    · refine (listedW_heap X _ bo bi bn _ _ j (block_lt hj) ?_ ?_ ?_).trans hj
      · rintro rfl; have := hj.symm.trans h.ok; cases this
      · rintro rfl; have := hj.symm.trans h.n; cases this
      · rintro rfl; have := hj.symm.trans h.no; cases this
  cases hd : decide (S.length / 2 < pre.length + 1) with
  | true => exact .inr ⟨rfl, _, _, by rw [hd] at hl; exact hl⟩
  | false => exact .inl ⟨rfl, by rw [hd] at hl; rw [List.length_append]; exact hl, by rw [hd] at hke; exact hke⟩
end Go.Proofs.YtkkfmkhbdoeglaaGreatDoor

/- The contract of package plain's listed over entries. No condition. -/
namespace Go.Proofs.YtkkfmkhbdoeglaaGreatDoor
open Go.RowKit Go.Shelf
attribute [local go_sem] Oper.semAt_some

theorem infoEntry : (Tryz.prog.info? 123).map (fun i => (i.zero, i.size, i.bytes)) = some (some (.agg #[.int .i64 0, .string ⟨#[]⟩, .string ⟨#[]⟩]), 3, 40) := by kernel_rfl
theorem cell_three_new (w : World) (x y z : Value) (t : TypeId) : ∀ j u, [x, y, z][j]? = some u → (w.alloc (.cells #[x, y, z] t)).cell? ((⟨w.heap.size, 0, none⟩ : Addr).add j) = some u := by
  intro j u hj
  have := cell_of_row (w.alloc (.cells #[x, y, z] t)) w.heap.size j _ _ _ (heap_new w (.cells #[x, y, z] t))
  match j, hj with
  | 0, hj => simp at hj; subst hj; simp [Addr.add, this]
  | 1, hj => simp at hj; subst hj; simp [Addr.add, this]
  | 2, hj => simp at hj; subst hj; simp [Addr.add, this]
  | j + 3, hj => simp at hj
/-- an append to a slice of the call's own, stored into its box, turns no block of another type -/
theorem typeOther {W : World} {base B : Nat} {t e t' : TypeId} {k m : Nat} {v v' : Value} {xs : List Value} (hv : Boxed W B t v) (hr : W.ownsRow base e m v k xs) {o : Obj} {w1 : World} (hg : (W.alloc o).grownBy w1 v.ownBlock) (ht : t ≠ t') (he : e ≠ t') {j : Nat} {cs : Array Value} {fz : Nat × Nat} (h : W.heap[j]? = some (.cells cs t' fz)) :
    (w1.setCell ⟨B, 0, none⟩ v').heap[j]? = some (.cells cs t' fz) := by
  have h1 : (W.alloc o).heap[j]? = some (.cells cs t' fz) := heap_old W o h
  have hne : some j ≠ v.ownBlock := by
    rcases hr.2 with ⟨rfl, _⟩ | ⟨g, cap, cur, rfl, _, hgb, _⟩
    · simp [Value.ownBlock]
    · intro e'
      obtain rfl : j = g := by simpa [Value.ownBlock] using e'
      rw [hgb] at h
      cases h
      exact he rfl
  have hB : j ≠ B := by
    rintro rfl
    have := (show W.heap[j]? = _ from hv).symm.trans h
    cases this
    exact ht rfl
  rw [Below.heap_setCell _ ⟨B, 0, none⟩ _ j hB, hg.block j (block_lt h1) hne, h1]
theorem rowOther_keys {W : World} {base B : Nat} {t e : TypeId} {k m : Nat} {v : Value} {xs : List Value} (hv : Boxed W B t v) (hr : W.ownsRow base e m v k xs) (ht : t ≠ 94) (he : e ≠ 94) :
    ∀ (o : Obj) (w1 : World) (v' : Value), (W.alloc o).grownBy w1 v.ownBlock → ∀ (j : Nat) (cs : Array Value) (fz : Nat × Nat), W.heap[j]? = some (Obj.cells cs 94 fz) → (w1.setCell ⟨B, 0, none⟩ v').heap[j]? = some (Obj.cells cs 94 fz) :=
  fun _ _ _ hg _ _ _ h => typeOther hv hr hg ht he h
theorem boxOther {W : World} {base B B2 : Nat} {t t2 e : TypeId} {k m : Nat} {v u : Value} {xs : List Value} (h2 : Boxed W B2 t2 u) (hv : Boxed W B t v) (hr : W.ownsRow base e m v k xs) {o : Obj} {w1 : World} (hg : (W.alloc o).grownBy w1 v.ownBlock) (v' : Value) (ht : t ≠ t2) (he : e ≠ t2) (_hB : B2 ≠ B) : Boxed (w1.setCell ⟨B, 0, none⟩ v') B2 t2 u :=
  typeOther hv hr hg ht he h2
set_option maxRecDepth 100000 in
set_option maxHeartbeats 4000000 in
theorem listed_any (Bm q off r : Nat) (S : List E) (w : World) (hBm : Bm < w.heap.size) (hm : w.cell? ⟨Bm, 0, none⟩ = some (.pointer (some ⟨q, off, none⟩))) (he : EntAt w q off r S) (hS : S.length ≤ 1000000000) :
    Calls Tryz.prog 48 #[.func (.func 90) #[] #[.pointer (some ⟨Bm, 0, none⟩)]] w fun e w' => ∃ v, e = .returned (.tuple #[v, .bool true]) ∧ EntsAt w' v S ∧ Below w.heap.size w w' := by
  obtain ⟨i0, hi, hz0, hz1, hz2⟩ := info_parts infoEntry
  refine (callsIn_wide (n := 9)).1 ?_
  refine callsIn_of_wp_marks Tryz.func48 rfl trivial ?_ rfl
  try simp only [Tryz.ntmps48, List.size_toArray, List.length_cons, List.length_nil, Nat.reduceAdd, Nat.reduceSub, Array.replicate_succ, Array.replicate_zero, List.push_toArray, List.append_toArray, List.nil_append, List.cons_append]
  gi_wp2
  have bL := (Boxed.new w 43 (.slice none 0 0)).alloc (.cells #[.bool true] 4)
  have bO := Boxed.new (w.alloc (.cells #[.slice none 0 0] 43)) 4 (.bool true)
  rw [World.size_alloc] at bO
  have hB0 : Below w.heap.size w ((w.alloc (.cells #[.slice none 0 0] 43)).alloc (.cells #[.bool true] 4)) := ((Below.refl _ w).alloc (Nat.le_refl _) _).alloc (by simp) _
  have hsz : ((w.alloc (.cells #[.slice none 0 0] 43)).alloc (.cells #[.bool true] 4)).heap.size = w.heap.size + 2 := by simp
  obtain ⟨W0, hW0⟩ : ∃ W0, (w.alloc (.cells #[.slice none 0 0] 43)).alloc (.cells #[.bool true] 4) = W0 := ⟨_, rfl⟩
  rw [hW0] at bL bO hB0 hsz ⊢
  clear hW0
  have hmx : maxLen = 9223372036854775807 := rfl
  have hq := he.lt
  have hr := he.tab.lt
  refine wpIn_rangeFunc_ownH rfl (by omega) (gf := 90) (lb := #[.pointer (some ⟨Bm, 0, none⟩)]) rfl trivial (enters_of Tryz.func90 (by kernel_rfl) rfl)
    (entries_stops (9 - 1) Bm q off r S w hBm hm he hS) (fun h k => KeepsE.trans h k)
    (fun W l o o' hl ho hc _ => ⟨by simp, (fun k hk => World.putObj_heap_other (by rcases hk with rfl | rfl | rfl <;> omega)), (fun k cs fz hk => (World.putObj_heap_other (fun e => by subst e; rw [hk] at ho; cases ho; cases hc)).trans hk)⟩) hB0 (fun _ => rfl)
    (fun pre W => ((∃ v, Boxed W w.heap.size 43 v ∧ W.ownsRow w.heap.size 123 3 v pre.length (entCells pre) ∧ True) ∧ Boxed W (w.heap.size + 1) 4 (.bool true)) ∧ Below w.heap.size w W)
    (fun _ _ _ => False)
    (OwnFrom.and (OwnFrom.and (Own.from (holdsRow_own w.heap.size w.heap.size 43 123 3 (fun pre : List E => pre.length) entCells (fun _ _ => True)) _) (Own.from (boxed_own _ _ _) _)) (ownFrom_below (Nat.le_refl _) (by omega)))
    (fun _ _ _ _ _ hs _ _ => hs)
    ⟨⟨⟨_, bL, World.ownsRow_nil _ _ _ _, trivial⟩, bO⟩, hB0⟩
    (fun x a' W => ∃ Bx, w.heap.size + 1 < Bx ∧ W.heap[Bx]? = some (.cells #[.int .i64 x.1.1, .string ⟨x.1.2.toArray⟩] 94 (0, 0)) ∧ a' = { tmps := #[.func (.func 90) #[] #[.pointer (some ⟨Bm, 0, none⟩)], undef, .slice none 0 0, .bool false, .pointer (some ⟨w.heap.size, 0, none⟩), .pointer (some ⟨w.heap.size + 1, 0, none⟩), .pointer (some ⟨Bx, 0, none⟩), .string ⟨x.2.toArray⟩, undef, undef, .func (.func 90) #[] #[.pointer (some ⟨Bm, 0, none⟩)], .agg #[.int .i64 x.1.1, .string ⟨x.1.2.toArray⟩], .string ⟨x.2.toArray⟩, undef, undef, undef, undef, undef, undef, undef, undef, undef, undef, undef, undef, undef, undef], defers := [] })
    (fun x a' _ X Y row hs hg hr => by
      obtain ⟨Bx, h1, h2, h3⟩ := hs
      exact ⟨Bx, h1, (hg.block Bx (block_lt h2) (fun e => by obtain ⟨-, o, ho, hc⟩ := hr Bx e.symm; rw [h2] at ho; cases ho; cases hc)).trans h2, h3⟩)
    ?assign ?body ?done ?stop
  case assign =>
    rintro l pre x W K ⟨⟨⟨v1, bS1, hr1, -⟩, bO1⟩, hB1⟩ hK
    unfold kV keyV
    gi_wp2
    exact hK _ _ ((KeepsOthers.alloc _ _).from _) (KeepsE.of_below ((Below.refl _ W).alloc (Nat.le_refl _) _) (by have := hB1.size; omega) (by have := hB1.size; omega) (by have := hB1.size; omega)) ⟨⟨⟨v1, bS1.alloc _, hr1.alloc _, trivial⟩, bO1.alloc _⟩, hB1.alloc hB1.size _⟩ ⟨W.heap.size, bO1.lt, heap_new W _, rfl⟩
  case body =>
    rintro l pre ⟨⟨kt, kb⟩, vb⟩ a' W hl ⟨rr, hrr⟩ ⟨⟨⟨v, hv, hrow, -⟩, bO1⟩, hB⟩ ⟨Bx, hBx, bX, rfl⟩ hlt
    have hc := hv.cell
    have x0 := cell_of_row _ _ 0 _ _ _ bX
    have x1 := cell_of_row _ _ 1 _ _ _ bX
    have hsW := hB.size
    have hkeys := rowOther_keys hv hrow (by decide) (by decide)
    gi_wp2_with (gi_at_builtin; refine wpListIn_append_own _ rfl _ _ 43 rfl w.heap.size 123 i0 (.agg #[.int .i64 0, .string ⟨#[]⟩, .string ⟨#[]⟩]) 3 40 Tryz.underlying43 hi hz0 hz1 hz2 rfl (by decide) _ _ _ rfl (hrow.alloc _) ⟨W.heap.size, 0, none⟩ 1 1 [.int .i64 kt, .string ⟨kb.toArray⟩, .string ⟨vb.toArray⟩] rfl rfl (cell_three_new _ _ _ _ _) (by simp [Value.oneCell']) (by omega) (by omega) (by simp; omega) ?_; intro v' w1 hown' hgrow _; obtain ⟨g', cap', rfl⟩ := ownsRow_succ hown'; obtain ⟨hv1, hv2, hr2, hk2, hb2⟩ := hv.appended (by decide) hrow hB.size (Nat.le_refl _) hown' hgrow; have hk3 := hkeys _ _ (.slice (some ⟨g', 0, none⟩) (pre.length + 1) cap') hgrow; have hb3 := boxOther bO1 hv hrow hgrow (.slice (some ⟨g', 0, none⟩) (pre.length + 1) cap') (by decide) (by decide) (by omega); have hc1 := hv1.cell; have hf1 := hv1.frozen)
    exact ⟨hk2.from _, ⟨hk2.size, (fun k hk => hb2.block k (by rcases hk with rfl | rfl | rfl <;> omega)), hk3⟩, ⟨⟨_, hv2, by rw [entCells_snoc]; simpa using hr2⟩, hb3⟩, hB.trans hb2⟩
  case done =>
    rintro D ys W hD rfl ⟨⟨⟨v, hv, hrow, -⟩, bO1⟩, hB⟩ hK
    have hc := hv.cell
    have ho := bO1.cell
    have hsW := hB.size
    have hw1 := bO1.lt
    have hB2 : Below w.heap.size w ((W.alloc (.cells #[.int .i64 0] 3)).alloc (.cells #[.bool false] 4)) := (hB.alloc hsW _).alloc (by simp; omega) _
    have bI := (Boxed.new W 3 (.int .i64 0)).alloc (.cells #[.bool false] 4)
    have bN := Boxed.new (W.alloc (.cells #[.int .i64 0] 3)) 4 (.bool false)
    rw [World.size_alloc] at bN
    have LV : Hid (ListedV w (w.heap.size + 1) (W.heap.size + 1) W.heap.size w.heap.size D v ys (.bool true) (.bool false) (.int .i64 ((([] : List E).length : Nat) : Int)) ((W.alloc (.cells #[.int .i64 0] 3)).alloc (.cells #[.bool false] 4))) :=
      Lib.hid ⟨(bO1.alloc _).alloc _, bN, bI, (hv.alloc _).alloc _, (hrow.alloc _).alloc _, (by rw [heap_old _ _ (heap_old W _ hK)]), hB2, by omega, by omega, by omega, by omega⟩
    have HE := Lib.hid (he.below hB2)
    have HM := Lib.hid ((hB2.cell (p := ⟨Bm, 0, none⟩) hBm).trans hm)
    have hs2 : ((W.alloc (.cells #[.int .i64 0] 3)).alloc (.cells #[.bool false] 4)).heap.size = W.heap.size + 2 := by simp
    clear hc ho he hm
    gi_wp2_with fail
    generalize hW2 : (W.alloc (.cells #[.int .i64 0] 3)).alloc (.cells #[.bool false] 4) = W2 at *
    clear hW2
    have HC := entries_calls 89 #[.pointer (some ⟨w.heap.size + 1, 0, none⟩), .pointer (some ⟨W.heap.size + 1, 0, none⟩), .pointer (some ⟨W.heap.size, 0, none⟩), .pointer (some ⟨w.heap.size, 0, none⟩)] (enters_of Tryz.func89 (by kernel_rfl) rfl) Bm q off r ys
      (fun pre X => ListedV w (w.heap.size + 1) (W.heap.size + 1) W.heap.size w.heap.size D v ys (.bool true) (.bool false) (.int .i64 (pre.length : Int)) X)
      (fun pre X => ∃ vn vi, ListedV w (w.heap.size + 1) (W.heap.size + 1) W.heap.size w.heap.size D v ys (.bool true) vn vi X)
      (fun s A B h hg => h.grown hg) (fun pre x W1 h hp => h.call hp hS hBm hq hr) W2 (by omega) HM.out HE.out hS LV.out
    refine ⟨trivial, callsIn_wide.2 (HC.mono ?_)⟩
    rintro e W3 ⟨⟨v', rfl⟩, hJ⟩
    obtain ⟨vn, vi, L3⟩ : ∃ vn vi, ListedV w (w.heap.size + 1) (W.heap.size + 1) W.heap.size w.heap.size D v ys (.bool true) vn vi W3 := by
      rcases hJ with h | ⟨pre, -, h⟩
      · exact ⟨_, _, h⟩
      · exact h
    clear hJ LV HE HM HC
    have c1 := L3.l.cell
    have c2 := L3.ok.cell
    have hK3 := L3.defer
    gi_wp2_with fail
    gi_region
    have L4 : ListedV w (w.heap.size + 1) (W.heap.size + 1) W.heap.size w.heap.size D v ys (.bool true) vn vi W3.drew := L3.grown ⟨rfl, rfl, rfl, Nat.le_refl _, fun _ _ _ => rfl⟩
    gi_wp2_with fail
    refine ⟨by simp, .inl ⟨_, _, rfl, run_takeDeferred hK3, ?_⟩⟩
    exact ⟨_, results_tmp2 rfl _ _ _, v, rfl, ents_of_row (ownsRow_putObj L4.row _ hK3 rfl), L4.below.trans (belowK_b (w := w) (Nat.le_refl _) W3.drew D _ _ (by omega) hK3 rfl rfl)⟩
  case stop =>
    rintro D c pre W _ _ h _
    exact h.elim
end Go.Proofs.YtkkfmkhbdoeglaaGreatDoor
