/- Appends to a byte slice that lies in a variable's box: what they leave alone. No condition. -/
import Derived.Test.YtkkfmkhbdoeglaaGreatDoorCells
import Derived.Test.YtkkfmkhbdoeglaaGreatDoorEntries
import Derived.RangeFuncNested
namespace Go.Proofs.YtkkfmkhbdoeglaaGreatDoor
open Go.RowKit

/-- an append of bytes, in a fenced walk -/
theorem wpListIn_append_u8T {F : Fence} (hF : ∀ f, F.fn f) {nF : Nat} {ops : Array Oper} {rest : List Oper} {o : Oper} {a : Act} {Q : Exit → Act → World → Prop} {w : World} (hgd : o.guard = none) (s x : Operand)
    (ho : o.op = .call { callee := .builtin .append, args := #[s, x], argTypes := #[59, 59] })
    (base : Nat) (v : Value) (n : Nat) (l : List UInt8) (hv : a.eval s = v) (hown : OwnS w base 1 v n (u8s l)) (hT : CellsOf w v 5) (m : List UInt8) (hs : BytesAt w (a.eval x) m)
    (hlen : n + m.length ≤ 140737488355328) (hbase : base ≤ w.heap.size)
    (h : ∀ v' w', OwnS w' base 1 v' (n + m.length) (u8s (l ++ m)) → w.grownBy w' v.ownBlock → CellsOf w' v' 5 → Below base w w' →
      wpListIn F nF Tryz.prog ops Q rest (a.put o.dst v') w') : wpListIn F nF Tryz.prog ops Q (o :: rest) a w := by
  obtain ⟨i0, hi, hz0, hz1, hz2⟩ := info_parts infoU8
  have hmx : maxLen = 9223372036854775807 := rfl
  refine wpListIn_append_own_srcT hF hgd s x _ _ ho base 1 5 i0 (.int .u8 0) Tryz.underlying59 hi hz0 hz1 (by rw [hz1]; rfl) (by omega) v n (u8s l) hv hown hT m.length (u8s m) (SliceAt.src Tryz.underlying59 hs (u8s_one m)) (by omega) (by rw [hz2]; omega) hbase (fun v' w' h1 h2 h3 => ?_)
  rw [← u8s_append] at h1
  exact h v' w' h1 h2 h3 (below_of_grown hown h2 hbase)
/-- an append of a string's bytes, in a fenced walk -/
theorem wpListIn_append_strT {F : Fence} (hF : ∀ f, F.fn f) {nF : Nat} {ops : Array Oper} {rest : List Oper} {o : Oper} {a : Act} {Q : Exit → Act → World → Prop} {w : World} (hgd : o.guard = none) (s x : Operand)
    (ho : o.op = .call { callee := .builtin .append, args := #[s, x], argTypes := #[59, 9] })
    (base : Nat) (v : Value) (n : Nat) (l : List UInt8) (hv : a.eval s = v) (hown : OwnS w base 1 v n (u8s l)) (hT : CellsOf w v 5) (m : List UInt8) (hs : a.eval x = .string ⟨m.toArray⟩)
    (hlen : n + m.length ≤ 140737488355328) (hbase : base ≤ w.heap.size)
    (h : ∀ v' w', OwnS w' base 1 v' (n + m.length) (u8s (l ++ m)) → w.grownBy w' v.ownBlock → CellsOf w' v' 5 → Below base w w' →
      wpListIn F nF Tryz.prog ops Q rest (a.put o.dst v') w') : wpListIn F nF Tryz.prog ops Q (o :: rest) a w := by
  obtain ⟨i0, hi, hz0, hz1, hz2⟩ := info_parts infoU8
  have hmx : maxLen = 9223372036854775807 := rfl
  refine wpListIn_append_own_srcT hF hgd s x _ _ ho base 1 5 i0 (.int .u8 0) Tryz.underlying59 hi hz0 hz1 (by rw [hz1]; rfl) (by omega) v n (u8s l) hv hown hT m.length (u8s m) (by rw [hs]; exact src_str m) (by omega) (by rw [hz2]; omega) hbase (fun v' w' h1 h2 h3 => ?_)
  rw [← u8s_append] at h1
  exact h v' w' h1 h2 h3 (below_of_grown hown h2 hbase)

theorem CellsOf.kept {w w' : World} {v : Value} {e : TypeId} {row : Option Nat} (h : CellsOf w v e) (hg : w.grownBy w' row) (hr : ∀ b, v.ownBlock = some b → row ≠ some b) : CellsOf w' v e := fun b hb => by
  obtain ⟨C, fz, hC⟩ := h b hb
  exact ⟨C, fz, (hg.block b (block_lt hC) (fun e => hr b hb e.symm)).trans hC⟩
/-- a slice of bytes in a variable's box -/
structure InBox (base B : Nat) (l : List UInt8) (v : Value) (W : World) : Prop where
  box : Boxed W B 59 v
  own : OwnS W base 1 v l.length (u8s l)
  typ : CellsOf W v 5
  lo : base ≤ B
section
variable {base B : Nat} {l m : List UInt8} {v v' : Value} {W w1 : World}
theorem InBox.apart (h : InBox base B l v W) {j : Nat} {cs : Array Value} {t' : TypeId} {fz : Nat × Nat} (hj : W.heap[j]? = some (.cells cs t' fz)) (ht : t' ≠ 5) : v.ownBlock ≠ some j := fun e => by
  obtain ⟨C, fz', hC⟩ := h.typ j e
  rw [hj] at hC
  cases hC
  exact ht rfl
theorem InBox.notOwn (h : InBox base B l v W) : v.ownBlock ≠ some B := h.apart h.box (by decide)
theorem InBox.kept {row : Option Nat} (h : InBox base B l v W) (hg : W.grownBy w1 row) (hr : ∀ r, row = some r → ∃ o : Obj, W.heap[r]? = some o ∧ o.isCells = false) : InBox base B l v w1 :=
  have h1 : ∀ b, v.ownBlock = some b → row ≠ some b := fun b hb e => by
    obtain ⟨C, fz, hC⟩ := h.typ b hb
    obtain ⟨o, ho, hc⟩ := hr b e
    rw [hC] at ho
    cases ho
    cases hc
  ⟨h.box.kept hg (fun e => by obtain ⟨o, ho, hc⟩ := hr B e.symm; rw [show W.heap[B]? = _ from h.box] at ho; cases ho; cases hc), h.own.grown hg h1, h.typ.kept hg h1, h.lo⟩
theorem InBox.alloc (h : InBox base B l v W) (o : Obj) : InBox base B l v (W.alloc o) := h.kept (World.grownBy_alloc W o none) (fun r e => by cases e)
/-- the box holds the slice still, ahead of the store -/
theorem InBox.still (h : InBox base B l v W) (hg : W.grownBy w1 v.ownBlock) : Boxed w1 B 59 v := h.box.kept hg (fun e => h.notOwn e.symm)
/-- behind the append and the store -/
theorem InBox.stored (h : InBox base B l v W) (hg : W.grownBy w1 v.ownBlock) {n : Nat} (hown : OwnS w1 base 1 v' n (u8s m)) (hn : n = m.length) (hT : CellsOf w1 v' 5) : InBox base B m v' (w1.setCell ⟨B, 0, none⟩ v') := by
  subst hn
  have h1 := h.still hg
  have hne : ∀ b, v'.ownBlock = some b → (some B : Option Nat) ≠ some b := fun b hb e => by
    cases e
    obtain ⟨C, fz', hC⟩ := hT B hb
    rw [show w1.heap[B]? = _ from h1] at hC
    cases hC
  exact ⟨h1.set v', hown.grown (grownBy_setCell' w1 B v') hne, hT.kept (grownBy_setCell' w1 B v') hne, h.lo⟩
/-- what the append and the store leave alone -/
theorem InBox.others (h : InBox base B l v W) (hg : W.grownBy w1 v.ownBlock) : KeepsOthers W (w1.setCell ⟨B, 0, none⟩ v') :=
  (KeepsOthers.of_grownBy hg (fun j o ej hj => by
    obtain ⟨C, fz, hC⟩ := h.typ j ej
    rw [hj] at hC
    cases hC
    rfl)).trans (KeepsOthers.setCell _ _ _)
theorem InBox.otherType (h : InBox base B l v W) (hg : W.grownBy w1 v.ownBlock) {j : Nat} {cs : Array Value} {t' : TypeId} {fz : Nat × Nat} (hj : W.heap[j]? = some (.cells cs t' fz)) (ht : t' ≠ 5) (ht2 : t' ≠ 59) : (w1.setCell ⟨B, 0, none⟩ v').heap[j]? = some (.cells cs t' fz) := by
  have hB : j ≠ B := by
    rintro rfl
    have := (show W.heap[j]? = _ from h.box).symm.trans hj
    cases this
    exact ht2 rfl
  rw [Below.heap_setCell _ ⟨B, 0, none⟩ _ j hB]
  exact (hg.block j (block_lt hj) (fun e => h.apart hj ht e.symm)).trans hj
theorem InBox.lower (h : InBox base B l v W) (hg : W.grownBy w1 v.ownBlock) (hb : base ≤ W.heap.size) : Below base W (w1.setCell ⟨B, 0, none⟩ v') :=
  (below_of_grown h.own hg hb).setCell (p := ⟨B, 0, none⟩) h.lo v'
theorem InBox.late {n : Nat} (ho : OwnS W base 1 v n (u8s l)) (hn : n = l.length) (hT : CellsOf W v 5) (hb : base ≤ W.heap.size) : InBox base W.heap.size l v (W.alloc (.cells #[v] 59)) := by
  subst hn
  exact ⟨Boxed.new W _ _, ho.below ((Below.refl _ W).alloc (Nat.le_refl _) _), hT.alloc _, hb⟩
theorem InBox.put {n : Nat} {u : Value} (hB : Boxed W B 59 u) (ho : OwnS W base 1 v n (u8s l)) (hn : n = l.length) (hT : CellsOf W v 5) (hb : base ≤ B) : InBox base B l v (W.setCell ⟨B, 0, none⟩ v) := by
  subst hn
  have hne : ∀ b, v.ownBlock = some b → (some B : Option Nat) ≠ some b := fun b h e => by
    cases e
    obtain ⟨C, fz', hC⟩ := hT B h
    rw [show W.heap[B]? = _ from hB] at hC
    cases hC
  exact ⟨hB.set v, ho.grown (grownBy_setCell' W B v) hne, hT.kept (grownBy_setCell' W B v) hne, hb⟩
/-- what a round of a range over entries must keep is kept -/
theorem InBox.keepsE (h : InBox base B l v W) (hg : W.grownBy w1 v.ownBlock) (hb : base ≤ W.heap.size) {x y z : Nat} {tx : TypeId} {u : Value} (hx : Boxed W x tx u) (htx : tx ≠ 5) (htx2 : tx ≠ 59) (hy : y < base) (hz : z < base) : KeepsE x y z W (w1.setCell ⟨B, 0, none⟩ v') := by
  refine ⟨by rw [size_setCell]; exact hg.size, fun k hk => ?_, fun k cs fz hk => h.otherType hg hk (by decide) (by decide)⟩
  rcases hk with rfl | rfl | rfl
  · exact (h.otherType hg hx htx htx2).trans (show W.heap[k]? = _ from hx).symm
  · exact (h.lower hg hb).block k hy
  · exact (h.lower hg hb).block k hz
end
end Go.Proofs.YtkkfmkhbdoeglaaGreatDoor
