/- The contract of package overlaykeep's sameEntries at two slices that read alike; lists of package plain's entries. No condition. -/
import Derived.Test.YtkkfmkhbdoeglaaGreatDoorRefOp
import Derived.Test.YtkkfmkhbdoeglaaGreatDoorTabPlain
namespace Go.Proofs.YtkkfmkhbdoeglaaGreatDoor
open Go.RowKit

/-- a list of entries as package plain's entries: three cells each -/
def entCells (l : List E) : List Value := l.flatMap fun x => [.int .i64 x.1.1, .string ⟨x.1.2.toArray⟩, .string ⟨x.2.toArray⟩]
theorem entCells_snoc (l : List E) (x : E) : entCells (l ++ [x]) = entCells l ++ [.int .i64 x.1.1, .string ⟨x.1.2.toArray⟩, .string ⟨x.2.toArray⟩] := by simp [entCells]
theorem entCells_length (l : List E) : (entCells l).length = l.length * 3 := by
  induction l with
  | nil => rfl
  | cons k l ih => simp [entCells] at ih ⊢; omega
theorem entCells_at : ∀ (l : List E) (i : Nat) (h : i < l.length), (entCells l)[i * 3]? = some (.int .i64 l[i].1.1) ∧ (entCells l)[i * 3 + 1]? = some (.string ⟨l[i].1.2.toArray⟩) ∧ (entCells l)[i * 3 + 2]? = some (.string ⟨l[i].2.toArray⟩)
  | k :: l, 0, _ => ⟨rfl, rfl, rfl⟩
  | k :: l, i + 1, h => by
    have ih := entCells_at l i (by simpa using h)
    have e : entCells (k :: l) = .int .i64 k.1.1 :: .string ⟨k.1.2.toArray⟩ :: .string ⟨k.2.toArray⟩ :: entCells l := rfl
    rw [e, show (i + 1) * 3 = i * 3 + 1 + 1 + 1 by omega, show i * 3 + 1 + 1 + 1 + 1 = (i * 3 + 1) + 1 + 1 + 1 by omega, show i * 3 + 1 + 1 + 1 + 2 = (i * 3 + 2) + 1 + 1 + 1 by omega]
    simpa using ih
/-- a slice of package plain's entries -/
def EntsAt (w : World) (v : Value) (l : List E) : Prop := SliceAt w v 3 l.length (entCells l)
theorem EntsAt.opened {w : World} {v : Value} {l : List E} (h : EntsAt w v l) :
    ∃ a cap, v = .slice a l.length cap ∧ l.length ≤ cap ∧ ∀ i (h : i < l.length), ∃ b off, a = some ⟨b, off, none⟩ ∧ w.cell? ⟨b, off + i * 3, none⟩ = some (.int .i64 l[i].1.1) ∧ w.cell? ⟨b, off + i * 3 + 1, none⟩ = some (.string ⟨l[i].1.2.toArray⟩) ∧ w.cell? ⟨b, off + i * 3 + 2, none⟩ = some (.string ⟨l[i].2.toArray⟩) := by
  obtain ⟨_, a, cap, rfl, hc, hx⟩ := h
  refine ⟨a, cap, rfl, hc, fun i hi => ?_⟩
  have hl := entCells_length l
  obtain ⟨h0, h1, h2⟩ := entCells_at l i hi
  obtain ⟨b, off, rfl, c0⟩ := hx (i * 3) (by omega)
  obtain ⟨b1, o1, e1, c1⟩ := hx (i * 3 + 1) (by omega)
  cases e1
  obtain ⟨b2, o2, e2, c2⟩ := hx (i * 3 + 2) (by omega)
  cases e2
  rw [List.getElem?_eq_getElem (by omega)] at h0 h1 h2
  exact ⟨b, off, rfl, c0.trans h0, (by rw [Nat.add_assoc]; exact c1.trans h1), (by rw [Nat.add_assoc]; exact c2.trans h2)⟩
theorem neq_entry (a : Int) (c d : List UInt8) (w : World) : (binOp .neq 123 (.agg #[.int .i64 a, .string ⟨c.toArray⟩, .string ⟨d.toArray⟩]) (.agg #[.int .i64 a, .string ⟨c.toArray⟩, .string ⟨d.toArray⟩])).run Tryz.prog w = .ok (.bool false) w := by
  have h1 : (part 3 #[Value.int .i64 a, .string ⟨c.toArray⟩, .string ⟨d.toArray⟩] 0).run Tryz.prog w = .ok (.int .i64 a) w := run_part_plain w (by kernel_rfl) rfl
  have h2 : (part 9 #[Value.int .i64 a, .string ⟨c.toArray⟩, .string ⟨d.toArray⟩] 1).run Tryz.prog w = .ok (.string ⟨c.toArray⟩) w := run_part_plain w (by kernel_rfl) rfl
  have h3 : (part 9 #[Value.int .i64 a, .string ⟨c.toArray⟩, .string ⟨d.toArray⟩] 2).run Tryz.prog w = .ok (.string ⟨d.toArray⟩) w := run_part_plain w (by kernel_rfl) rfl
  have ht : Tryz.prog.underlying 123 = some (.struct (Tryz.prog.fieldsOf 123)) := by kernel_rfl
  have hp : Tryz.prog.stoodInHeld 123 = false := by kernel_rfl
  have hf := TypeDesc.struct.inj (Option.some.inj (ht.symm.trans Tryz.underlying123))
  have k1 : ∀ m (x y : Int), (Op.equalIn (m + 1) 3 (.int .i64 x) (.int .i64 y)).run Tryz.prog w = .ok (x == y) w := fun m x y => by simp [Op.equalIn, run_underlying Tryz.underlying3]
  have k2 : ∀ m (x y : ByteArray), (Op.equalIn (m + 1) 9 (.string x) (.string y)).run Tryz.prog w = .ok (x == y) w := fun m x y => by simp [Op.equalIn, run_underlying Tryz.underlying9]
  have hd : ∀ n, (Op.equalIn (n + 2) 123 (.agg #[.int .i64 a, .string ⟨c.toArray⟩, .string ⟨d.toArray⟩]) (.agg #[.int .i64 a, .string ⟨c.toArray⟩, .string ⟨d.toArray⟩])).run Tryz.prog w = .ok true w := by
    intro n
    rw [run_equalIn_agg w (n + 1) 123 _ _ ht hp, hf]
    simp only [Op.eqFields]
    rw [if_pos (by decide), if_pos (by decide), if_pos (by decide)]
    have hb : ((⟨c.toArray⟩ : ByteArray) == ⟨c.toArray⟩) = true := (MapKept.bytes_beq _ _).2 rfl
    have hb' : ((⟨d.toArray⟩ : ByteArray) == ⟨d.toArray⟩) = true := (MapKept.bytes_beq _ _).2 rfl
    simp [Sem.run_bind, h1, h2, h3, k1, k2, Result.andThen_ok, hb, hb']
  have hh := hd 9998
  simp only [binOp]
  simp [Op.equal, Op.maxDepth, hh]
theorem sameEntries_true (sv tv : Value) (l : List E) (w : World) (h1 : EntsAt w sv l) (h2 : EntsAt w tv l) (hl : l.length ≤ 1000000000) :
    Calls Tryz.prog 20 #[sv, tv] w fun e w' => e = .returned (.bool true) ∧ Below w.heap.size w w' := by
  obtain ⟨a, cap, rfl, -, hx⟩ := h1.opened
  obtain ⟨b, cap2, rfl, -, hy⟩ := h2.opened
  have HX := Lib.hid hx
  have HY := Lib.hid hy
  clear hx hy h1 h2
  go_enter Tryz.func20, Tryz.ntmps20
  go_wp2
  go_loopw [5] (fun i wr => ∃ k : Nat, k ≤ l.length ∧ i = .int .i64 k ∧ ∃ q, wr = w.drewN q) (fun i _ => l.length - (intOf i).toNat)
  case atStart => exact ⟨0, Nat.zero_le _, rfl, 0, rfl⟩
  case round =>
    obtain ⟨k, hk, rfl, q, rfl⟩ := hrel
    by_cases hlt : k < l.length
    · have hlt' : (k : Int) < l.length := by omega
      obtain ⟨b1, o1, rfl, c0, c1, c2⟩ := HX.out k hlt
      obtain ⟨b2, o2, rfl, d0, d1, d2⟩ := HY.out k hlt
      generalize l[k] = o at *
      obtain ⟨⟨T, KB⟩, VB⟩ := o
      have hne := fun w => neq_entry T KB VB w
      go_wp2
      go_quiet (fail)
      go_wp2
      exact ⟨⟨k + 1, by omega, by go_num, _, rfl⟩, by simp [intOf]; omega⟩
    · obtain rfl : k = l.length := by omega
      have hge : ¬ (l.length : Int) < l.length := by omega
      go_wp2
      go_ret
      exact ⟨rfl, (Below.refl _ w).drewN q⟩
end Go.Proofs.YtkkfmkhbdoeglaaGreatDoor

/- More words for slices of entries. No condition. -/
namespace Go.Proofs.YtkkfmkhbdoeglaaGreatDoor
open Go.RowKit

theorem entCells_append (l m : List E) : entCells (l ++ m) = entCells l ++ entCells m := by simp [entCells]
theorem entCells_one (l : List E) : ∀ u ∈ entCells l, u.oneCell' = true := by
  intro u hu
  obtain ⟨x, -, hx⟩ := List.mem_flatMap.1 hu
  simp at hx
  rcases hx with rfl | rfl | rfl <;> rfl
theorem EntsAt.below {w w' : World} {v : Value} {l : List E} (h : EntsAt w v l) (hb : Below w.heap.size w w') : EntsAt w' v l := SliceAt.below h hb
theorem OwnS.ents {w : World} {base : Nat} {v : Value} {l : List E} (h : OwnS w base 3 v l.length (entCells l)) : EntsAt w v l := h.sliceAt
end Go.Proofs.YtkkfmkhbdoeglaaGreatDoor
