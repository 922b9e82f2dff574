/- A part of what is proved here: lemmas and contracts of single functions. No condition but those that each names. -/
import Derived.LoopIn
import Derived.RangeFuncNested
import Derived.TacticsInMore
import Derived.Test.YtkkfmkhbdoeglabGreatDoorG02
import Derived.Test.YtkkfmkhbdoeglabGreatDoorG04
import Derived.Test.YtkkfmkhbdoeglabGreatDoorG08
import Derived.Test.YtkkfmkhbdoeglabGreatDoorG09
import Derived.Test.YtkkfmkhbdoeglabGreatDoorG12
import Derived.Test.YtkkfmkhbdoeglabGreatDoorG14
import Derived.Test.YtkkfmkhbdoeglabGreatDoorG15
import Derived.Test.YtkkfmkhbdoeglabGreatDoorG16
import Derived.Test.YtkkfmkhbdoeglabGreatDoorG20
namespace Go.Proofs.YtkkfmkhbdoeglabGreatDoor
open Go.RowKit
/-- a plain fault as a value -/
def faultV (k n s : Int) : Value := .agg #[.int .i64 k, .int .i64 n, .int .i64 s]
end Go.Proofs.YtkkfmkhbdoeglabGreatDoor
namespace Go.Proofs.YtkkfmkhbdoeglabGreatDoor
open Go.RowKit
/-- which of n things a raw number speaks of -/
def pickN (c n : Int) : Int := if c < 0 then (-(c + 1)) % n else c % n
theorem pickN_bound (c n : Int) (hn : 0 < n) : 0 ≤ pickN c n ∧ pickN c n < n := by
  unfold pickN
  split
  · exact ⟨Int.emod_nonneg _ (by omega), Int.emod_lt_of_pos _ hn⟩
  · exact ⟨Int.emod_nonneg _ (by omega), Int.emod_lt_of_pos _ hn⟩
end Go.Proofs.YtkkfmkhbdoeglabGreatDoor
namespace Go.Proofs.YtkkfmkhbdoeglabGreatDoor
open Go.RowKit
set_option maxRecDepth 100000 in
set_option maxHeartbeats 1000000 in
theorem tablesApply_bad (q r : Nat) (S : List E) (v : Nat) (sv : Value) (os : List OpB) (w : World) (_he : EntAt w q 0 r S) (hs : OpsAt w sv os) (hg : ShapesVar w) (hfit : OpsFit os) (f : Nat × Nat) (hw : wrongB v os = some f) :
    Calls Tryz.prog 93 #[.pointer (some ⟨q, 0, none⟩), .agg #[.int .u64 v, sv]] w fun e w' => ∃ ev, e = .returned ev ∧ FaultAt w' w.heap.size ev f.1 f.2 ∧ Below w.heap.size w w' := by
  have hs' : OpsAt (w.alloc (.cells #[.int .u64 (v : Int), sv] 51)) sv os := hs.below ((Below.refl _ w).alloc (Nat.le_refl _) _)
  have HW := Lib.hid hw
  clear hw
  go_enter Tryz.func93, Tryz.ntmps93
  go_wp2_with fail
  refine (checked_any v sv os _ hs' (hg.alloc _) hfit).mono ?_
  rintro e w1 ⟨⟨rr, rfl, fp, rfl, hf⟩, hb1⟩
  rw [HW.out] at hf
  obtain ⟨g, rfl, hg1, hg2⟩ := hf
  have HG2 := Lib.hid hg2
  clear hg2
  go_wp2
  go_ret
  exact ⟨_, rfl, ⟨g, rfl, by simp at hg1; omega, HG2.out⟩, ((Below.refl _ w).alloc (Nat.le_refl _) _).trans (hb1.mono (by simp))⟩
set_option maxRecDepth 100000 in
set_option maxHeartbeats 1000000 in
theorem tablesApply_good (q r : Nat) (S : List E) (v : Nat) (sv : Value) (os : List OpB) (w : World) (he : EntAt w q 0 r S) (hs : OpsAt w sv os) (hg : ShapesVar w) (hfit : OpsFit os) (hw : wrongB v os = none) :
    Calls Tryz.prog 93 #[.pointer (some ⟨q, 0, none⟩), .agg #[.int .u64 v, sv]] w fun e w' => e = .returned .nilIface ∧ TabAt w' r (foldS S os) ∧ Ext (fun i => i = r) w w' := by
  have hb0 : Below w.heap.size w (w.alloc (.cells #[.int .u64 (v : Int), sv] 51)) := (Below.refl _ w).alloc (Nat.le_refl _) _
  have hs' : OpsAt (w.alloc (.cells #[.int .u64 (v : Int), sv] 51)) sv os := hs.below hb0
  have h8 : os.length ≤ 8 := by
    unfold wrongB at hw
    split at hw
    · cases hw
    · split at hw
      · cases hw
      · rename_i h1 h2; omega
  have HW := Lib.hid hw
  have D0 := Lib.hid (heap_new w (.cells #[.int .u64 (v : Int), sv] 51))
  have HE := Lib.hid (he.below hb0)
  clear hw he
  have HS := Lib.hid hs'
  go_enter Tryz.func93, Tryz.ntmps93
  go_wp2_with fail
  refine (checked_any v sv os _ hs' (hg.alloc _) hfit).mono ?_
  rintro e w1 ⟨⟨rr, rfl, fp, rfl, hf⟩, hb1⟩
  rw [HW.out] at hf
  obtain rfl : fp = none := hf
  have D1 := Lib.hid (below_at hb1 (by simp) D0.out)
  have d0 := cell_of_row _ _ 0 _ _ _ D1.out
  have d1 := cell_of_row _ _ 1 _ _ _ D1.out
  have HE1 := Lib.hid (HE.out.below hb1)
  have HS1 := Lib.hid (HS.out.below hb1)
  have b1 : Below w.heap.size w w1 := hb0.trans (hb1.mono (by simp))
  clear hs' hs
  go_wp2
  go_still_tail 4, (by kernel_rfl)
  go_wp2_with fail
  refine (apply_any q 0 r S v sv os w1.drew ⟨HE1.out.cell, HE1.out.tab.old rfl⟩ (HS1.out.below ((Below.refl _ w1).drew)) (by omega)).mono ?_
  rintro e w2 ⟨rfl, ht2, hx2⟩
  have HT2 := Lib.hid ht2
  clear ht2
  go_wp2
  go_ret
  exact ⟨rfl, HT2.out, ((Ext.of_new b1).drew).trans hx2⟩
/-- a pointer to a Folded: its tables read as S -/
structure FoldAt (w : World) (fb q r : Nat) (S : List E) : Prop where
  cell : w.cell? ⟨fb, 0, none⟩ = some (.pointer (some ⟨q, 0, none⟩))
  ent : EntAt w q 0 r S
theorem FoldAt.below {w w' : World} {fb q r : Nat} {S : List E} (h : FoldAt w fb q r S) (hb : Below w.heap.size w w') : FoldAt w' fb q r S :=
  ⟨(hb.cell (p := ⟨fb, 0, none⟩) (cell_lt h.cell)).trans h.cell, h.ent.below hb⟩
theorem FoldAt.step {w w' : World} {fb q r : Nat} {S T : List E} (h : FoldAt w fb q r S) (hx : Ext (fun i => i = r) w w') (ht : TabAt w' r T) : FoldAt w' fb q r T := ⟨hx.cell (cell_not_map h.cell h.ent.tab) h.cell, h.ent.step hx ht⟩
theorem FoldAt.other {w w' : World} {fb q r r' : Nat} {S : List E} (h : FoldAt w fb q r S) (hx : Ext (fun i => i = r') w w') (hf : fb ≠ r') (hq : q ≠ r') (hr : r ≠ r') : FoldAt w' fb q r S :=
  ⟨hx.cell hf h.cell, hx.cell hq h.ent.cell, h.ent.tab.old (hx.block r h.ent.tab.lt hr)⟩
/-- what an Apply leaves; what it tells -/
def applyS (v : Nat) (S : List E) (os : List OpB) : List E := match wrongB v os with
  | none => foldS S os
  | some _ => S
end Go.Proofs.YtkkfmkhbdoeglabGreatDoor
namespace Go.Proofs.YtkkfmkhbdoeglabGreatDoor
open Go.RowKit
end Go.Proofs.YtkkfmkhbdoeglabGreatDoor
namespace Go.Proofs.YtkkfmkhbdoeglabGreatDoor
open Go.RowKit Go.Shelf
theorem entsFn_any (q off : Nat) (w : World) : Calls Tryz.prog 97 #[.pointer (some ⟨q, off, none⟩)] w fun e w' =>
    e = .returned (.func (.func 135) #[] #[.pointer (some ⟨w.heap.size, 0, none⟩)]) ∧ w' = w.alloc (.cells #[.pointer (some ⟨q, off, none⟩)] 219) := by
  go_enter Tryz.func97, Tryz.ntmps97
  go_wp2
  go_ret
  exact ⟨rfl, rfl⟩
end Go.Proofs.YtkkfmkhbdoeglabGreatDoor
namespace Go.Proofs.YtkkfmkhbdoeglabGreatDoor
open Go.RowKit
theorem opCells_one (os : List OpB) : ∀ u ∈ opCells os, u.oneCell' = true := by
  intro u hu
  unfold opCells at hu
  rw [List.mem_flatMap] at hu
  obtain ⟨o, _, hu⟩ := hu
  simp only [List.mem_cons, List.not_mem_nil, or_false] at hu
  rcases hu with rfl | rfl | rfl | rfl <;> rfl
theorem oneOp_at (w : World) (o : OpB) : OpsAt (w.alloc (.cells #[.int .i64 o.kind, .int .i64 o.table, .string ⟨o.key.toArray⟩, .string ⟨o.val.toArray⟩] 105)) (.slice (some ⟨w.heap.size, 0, none⟩) 1 1) [o] :=
  (OwnS.new w #[.int .i64 o.kind, .int .i64 o.table, .string ⟨o.key.toArray⟩, .string ⟨o.val.toArray⟩] 105 0 0 0 4 1 1 (Nat.zero_le _) (by omega) (by decide) (by simp) (.inl (by omega))).sliceAt
theorem OpsAt.src {w : World} {v : Value} {os : List OpB} (h : OpsAt w v os) : Src Tryz.prog 4 49 v os.length (opCells os) w := SliceAt.src Tryz.underlying49 h (opCells_one os)
theorem OwnS.shape {w : World} {base k : Nat} {v : Value} {n : Nat} {xs : List Value} (h : OwnS w base k v n xs) : ∃ a cap, v = .slice a n cap := by
  obtain ⟨_, ⟨rfl, rfl⟩ | ⟨g, off, cap, rfl, _⟩⟩ := h
  · exact ⟨none, 0, rfl⟩
  · exact ⟨_, cap, rfl⟩
theorem OwnS.ops {w : World} {base : Nat} {v : Value} {os : List OpB} (h : OwnS w base 4 v os.length (opCells os)) : OpsAt w v os := h.sliceAt
end Go.Proofs.YtkkfmkhbdoeglabGreatDoor
namespace Go.Proofs.YtkkfmkhbdoeglabGreatDoor
open Go.RowKit
/-- a slice's own block holds cells of that type -/
def CellsOf (w : World) (v : Value) (e : TypeId) : Prop := ∀ b, v.ownBlock = some b → ∃ C fz, w.heap[b]? = some (.cells C e fz)
theorem setCells_type (g : Nat) : ∀ (vs : List Value) (o : Nat) (w : World) {C : Array Value} {e : TypeId} {fz : Nat × Nat}, w.heap[g]? = some (.cells C e fz) → ∃ C', (w.setCells g o vs).heap[g]? = some (.cells C' e fz)
  | [], _, _, C, _, _, h => ⟨C, h⟩
  | v :: vs, o, w, C, e, fz, h => by
    simp only [World.setCells]
    have h1 : ∃ C', (w.setCell ⟨g, o, none⟩ v).heap[g]? = some (.cells C' e fz) := by
      obtain ⟨hlt, hk⟩ := Array.getElem?_eq_some_iff.1 h
      have e1 : (w.setCell ⟨g, o, none⟩ v).heap[g]? = some ((w.setCell ⟨g, o, none⟩ v).heap[g]'(by rw [size_setCell]; exact hlt)) := Array.getElem?_eq_getElem _
      rw [e1]
      simp only [World.setCell, Array.getElem_modify_self, hk]
      exact ⟨_, rfl⟩
    obtain ⟨C', h1⟩ := h1
    exact setCells_type g vs (o + 1) _ h1
theorem run_append_own_srcT {P : Program} (w : World) (base : Nat) (t tx ty e : TypeId) (i : TypeInfo) (z : Value) (ht : P.underlying t = some (.slice e)) (hi : P.info? e = some i) (hz : i.zero = some z) (hzs : z.cells.size = i.size) (hsz : 0 < i.size)
    (v : Value) (n : Nat) (xs : List Value) (hown : OwnS w base i.size v n xs) (hT : CellsOf w v e) (x : Value) (m : Nat) (news : List Value) (hs : Src P i.size tx x m news w)
    (h63 : n + m ≤ maxLen) (hbytes : (n + m) * i.bytes ≤ 140737488355328) (hbase : base ≤ w.heap.size) :
    ∃ v' w', (Builtin.append_ #[t, tx] ty #[v, x]).run P w = .ok v' w' ∧ OwnS w' base i.size v' (n + m) (xs ++ news) ∧ w.grownBy w' v.ownBlock ∧ CellsOf w' v' e := by
  have hmx : maxLen = 9223372036854775807 := rfl
  obtain ⟨v', w', hr, h1, h2, h3⟩ := run_append_own_src (P := P) w base t tx ty e i z ht hi hz hzs hsz v n xs hown x m news hs h63 hbytes hbase
  refine ⟨v', w', hr, h1, h2, ?_⟩
  rcases h3 with ⟨g, off, cap, rfl, rfl, rfl⟩ | rfl | ⟨cap', rfl, -⟩
  · intro b hb
    obtain rfl : g = b := by simpa [Value.ownBlock] using hb
    obtain ⟨C, fz, hC⟩ := hT g rfl
    obtain ⟨C', hC'⟩ := setCells_type g news (off + n * i.size) w hC
    exact ⟨C', fz, hC'⟩
  · intro b hb
    simp [Value.ownBlock] at hb
  · have key : ∀ (base0 : Option Addr) (old : Nat), v = .slice base0 n old → old < n + m → (Builtin.firstCells i.size n (.slice base0 n old)).run P w.drew = .ok xs.toArray w.drew → CellsOf w' (.slice (some ⟨w.heap.size, 0, none⟩) (n + m) cap') e := by
      intro base0 old hv ho hf
      subst hv
      have hr' := run_append_grow_src (P := P) w t tx ty e i z ht hi hz base0 n old xs hf x m news hs ho (by omega) (growslice_fits ho hbytes)
      have hw := hr.symm.trans hr'
      injection hw with _ hw
      subst hw
      intro b hb
      obtain rfl : w.heap.size = b := by simpa [Value.ownBlock] using hb
      exact ⟨_, _, heap_new w.drew _⟩
    obtain ⟨hxl, ⟨rfl, rfl⟩ | ⟨g, off, cap, rfl, hbg, hlt, hnc, hcm, hcell, hfree⟩⟩ := hown
    · have hx : xs = [] := List.eq_nil_of_length_eq_zero (by simpa using hxl)
      subst hx
      by_cases hm : m = 0
      · subst hm
        have hn : news = [] := List.eq_nil_of_length_eq_zero (by simpa using hs.newsLen)
        subst hn
        have hl := hs.len w
        have hc := hs.cells
        have hnil : (Builtin.append_ #[t, tx] ty #[.slice none 0 0, x]).run P w = .ok (.slice none 0 0) w := by
          rcases hs.kind with ⟨e', hk⟩ | hk <;> simp [Builtin.append_, run_underlying ht, run_underlying hk, sizeOf, typeInfo, hi, hl, hc]
        have hw := hr.symm.trans hnil
        cases hw
      · exact key none 0 rfl (by omega) (run_firstCells_none w.drew i.size 0 0 0)
    · by_cases hroom : n + m ≤ cap
      · have hin : n * i.size + news.length ≤ cap * i.size := by rw [hs.newsLen, ← Nat.add_mul]; exact Nat.mul_le_mul_right _ hroom
        have hc : ∀ j, j < news.length → (w.cell? ⟨g, off + n * i.size + j, none⟩).isSome = true := fun j hj => by
          have := (hfree (n * i.size + j) (by omega)).1
          rw [Nat.add_assoc]; exact this
        have hf : ∀ j, j < news.length → w.frozen? ⟨g, off + n * i.size + j, none⟩ = false := fun j hj => by
          have := (hfree (n * i.size + j) (by omega)).2
          rw [Nat.add_assoc]; exact this
        have hr' := run_append_room_src (P := P) w t tx ty e i ht hi g off n cap x m news hs hroom hc hf
        have hw := hr.symm.trans hr'
        injection hw with hw _
        injection hw with hw _
        injection hw with hw
        injection hw with hw
        omega
      · refine key (some ⟨g, off, none⟩) cap rfl (by omega) (run_firstCells_some w.drew i.size n ⟨g, off, none⟩ n cap xs hxl (fun j u hu => ?_))
        obtain ⟨hj, hv⟩ := List.getElem?_eq_some_iff.1 hu
        rw [← hv]
        rw [Addr.add_lit]
        exact hcell j hj
end Go.Proofs.YtkkfmkhbdoeglabGreatDoor
namespace Go.Proofs.YtkkfmkhbdoeglabGreatDoor
open Go.RowKit
theorem CellsOf.alloc {w : World} {v : Value} {e : TypeId} (h : CellsOf w v e) (o : Obj) : CellsOf (w.alloc o) v e := fun b hb => by
  obtain ⟨C, fz, hC⟩ := h b hb
  exact ⟨C, fz, heap_old w o hC⟩
theorem CellsOf.nil (w : World) (e : TypeId) : CellsOf w (.slice none 0 0) e := fun b hb => by simp [Value.ownBlock] at hb
end Go.Proofs.YtkkfmkhbdoeglabGreatDoor
namespace Go.Proofs.YtkkfmkhbdoeglabGreatDoor
open Go.RowKit
theorem CellsOf.kept {w w' : World} {v : Value} {e : TypeId} {row : Option Nat} (h : CellsOf w v e) (hg : w.grownBy w' row) (hr : ∀ b, v.ownBlock = some b → row ≠ some b) : CellsOf w' v e := fun b hb => by
  obtain ⟨C, fz, hC⟩ := h b hb
  exact ⟨C, fz, (hg.block b (block_lt hC) (fun e => hr b hb e.symm)).trans hC⟩
/-- a slice of bytes in a variable's box -/
structure InBox (base B : Nat) (l : List UInt8) (v : Value) (W : World) : Prop where
  box : Boxed W B 112 v
  own : OwnS W base 1 v l.length (u8s l)
  typ : CellsOf W v 5
  lo : base ≤ B
section
variable {base B : Nat} {l m : List UInt8} {v v' : Value} {W w1 : World}
theorem InBox.apart (h : InBox base B l v W) {j : Nat} {cs : Array Value} {t' : TypeId} {fz : Nat × Nat} (hj : W.heap[j]? = some (.cells cs t' fz)) (ht : t' ≠ 5) : v.ownBlock ≠ some j := fun e => by
  obtain ⟨C, fz', hC⟩ := h.typ j e
  rw [hj] at hC
  cases hC
  exact ht rfl
theorem InBox.notOwn (h : InBox base B l v W) : v.ownBlock ≠ some B := h.apart h.box (by decide)
theorem InBox.kept {row : Option Nat} (h : InBox base B l v W) (hg : W.grownBy w1 row) (hr : ∀ r, row = some r → ∃ o : Obj, W.heap[r]? = some o ∧ o.isCells = false) : InBox base B l v w1 :=
  have h1 : ∀ b, v.ownBlock = some b → row ≠ some b := fun b hb e => by
    obtain ⟨C, fz, hC⟩ := h.typ b hb
    obtain ⟨o, ho, hc⟩ := hr b e
    rw [hC] at ho
    cases ho
    cases hc
  ⟨h.box.kept hg (fun e => by obtain ⟨o, ho, hc⟩ := hr B e.symm; rw [show W.heap[B]? = _ from h.box] at ho; cases ho; cases hc), h.own.grown hg h1, h.typ.kept hg h1, h.lo⟩
theorem InBox.alloc (h : InBox base B l v W) (o : Obj) : InBox base B l v (W.alloc o) := h.kept (World.grownBy_alloc W o none) (fun r e => by cases e)
/-- the box holds the slice still, ahead of the store -/
theorem InBox.still (h : InBox base B l v W) (hg : W.grownBy w1 v.ownBlock) : Boxed w1 B 112 v := h.box.kept hg (fun e => h.notOwn e.symm)
/-- what the append and the store leave alone -/
theorem InBox.others (h : InBox base B l v W) (hg : W.grownBy w1 v.ownBlock) : KeepsOthers W (w1.setCell ⟨B, 0, none⟩ v') :=
  (KeepsOthers.of_grownBy hg (fun j o ej hj => by
    obtain ⟨C, fz, hC⟩ := h.typ j ej
    rw [hj] at hC
    cases hC
    rfl)).trans (KeepsOthers.setCell _ _ _)
theorem InBox.late {n : Nat} (ho : OwnS W base 1 v n (u8s l)) (hn : n = l.length) (hT : CellsOf W v 5) (hb : base ≤ W.heap.size) : InBox base W.heap.size l v (W.alloc (.cells #[v] 112)) := by
  subst hn
  exact ⟨Boxed.new W _ _, ho.below ((Below.refl _ W).alloc (Nat.le_refl _) _), hT.alloc _, hb⟩
theorem InBox.put {n : Nat} {u : Value} (hB : Boxed W B 112 u) (ho : OwnS W base 1 v n (u8s l)) (hn : n = l.length) (hT : CellsOf W v 5) (hb : base ≤ B) : InBox base B l v (W.setCell ⟨B, 0, none⟩ v) := by
  subst hn
  have hne : ∀ b, v.ownBlock = some b → (some B : Option Nat) ≠ some b := fun b h e => by
    cases e
    obtain ⟨C, fz', hC⟩ := hT B h
    rw [show W.heap[B]? = _ from hB] at hC
    cases hC
  exact ⟨hB.set v, ho.grown (grownBy_setCell' W B v) hne, hT.kept (grownBy_setCell' W B v) hne, hb⟩
end
end Go.Proofs.YtkkfmkhbdoeglabGreatDoor
