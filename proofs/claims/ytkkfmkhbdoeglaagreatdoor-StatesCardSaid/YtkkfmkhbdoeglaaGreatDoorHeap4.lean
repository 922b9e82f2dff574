/- An append of one change to a slice of changes of the call's own. -/
import Derived.Test.YtkkfmkhbdoeglaaGreatDoorChk
import Derived.Test.YtkkfmkhbdoeglaaGreatDoorHeap
namespace Go.Proofs.YtkkfmkhbdoeglaaGreatDoor
open Go.RowKit

theorem infoOp : (Tryz.prog.info? 96).map (fun i => (i.zero, i.size, i.bytes)) = some (some (.agg #[.int .i64 0, .int .i64 0, .string ⟨#[]⟩, .string ⟨#[]⟩]), 4, 48) := by kernel_rfl
theorem opCells_one (os : List OpB) : ∀ u ∈ opCells os, u.oneCell' = true := by
  intro u hu
  unfold opCells at hu
  rw [List.mem_flatMap] at hu
  obtain ⟨o, _, hu⟩ := hu
  simp only [List.mem_cons, List.not_mem_nil, or_false] at hu
  rcases hu with rfl | rfl | rfl | rfl <;> rfl
theorem oneOp_at (w : World) (o : OpB) : OpsAt (w.alloc (.cells #[.int .i64 o.kind, .int .i64 o.table, .string ⟨o.key.toArray⟩, .string ⟨o.val.toArray⟩] 96)) (.slice (some ⟨w.heap.size, 0, none⟩) 1 1) [o] :=
  (OwnS.new w #[.int .i64 o.kind, .int .i64 o.table, .string ⟨o.key.toArray⟩, .string ⟨o.val.toArray⟩] 96 0 0 0 4 1 1 (Nat.zero_le _) (by omega) (by decide) (by simp) (.inl (by omega))).sliceAt
theorem OpsAt.src {w : World} {v : Value} {os : List OpB} (h : OpsAt w v os) : Src Tryz.prog 4 32 v os.length (opCells os) w := SliceAt.src Tryz.underlying32 h (opCells_one os)
theorem apart_of {w w' : World} {k n : Nat} {v v' : Value} {news : List Value}
    (h3 : (∃ g off cap, v = .slice (some ⟨g, off, none⟩) n cap ∧ v' = .slice (some ⟨g, off, none⟩) (n + k) cap ∧ w' = w.setCells g (off + n * 4) news) ∨ v' = .slice none 0 0 ∨ ∃ cap, v' = .slice (some ⟨w.heap.size, 0, none⟩) (n + k) cap ∧ Below w.heap.size w w') :
    ∀ b, b < w.heap.size → v.ownBlock ≠ some b → v'.ownBlock ≠ some b := by
  intro b hb hne
  rcases h3 with ⟨g, off, cap, rfl, rfl, _⟩ | rfl | ⟨cap, rfl, _⟩
  · exact hne
  · simp [Value.ownBlock]
  · simp [Value.ownBlock]; omega
/-- an append of changes, as one step of a region that draws its order -/
theorem step_append_ops {ops : Array Oper} {o : Oper} {a : Act} {K : Act → World → Prop} {Q : Exit → Act → World → Prop} {E : Prop} {w : World} (hgd : o.guard = none) (s x : Operand)
    (ho : o.op = .call { callee := .builtin .append, args := #[s, x], argTypes := #[32, 32] })
    (base : Nat) (v : Value) (os : List OpB) (hv : a.eval s = v) (hown : OwnS w base 4 v os.length (opCells os)) (us : List OpB) (hs : OpsAt w (a.eval x) us)
    (hlen : os.length + us.length ≤ 2932031007402) (hbase : base ≤ w.heap.size)
    (h : ∀ v' w', OwnS w' base 4 v' (os ++ us).length (opCells (os ++ us)) → w.grownBy w' v.ownBlock → Below base w w' → (∀ b, b < w.heap.size → v.ownBlock ≠ some b → v'.ownBlock ≠ some b) →
      K (a.put o.dst v') w') : if Region.wanted o (yielded ops a.tmps) = true then Oper.wp Tryz.prog o a w K Q else E := by
  have hw : Region.wanted o (yielded ops a.tmps) = true := by simp [Region.wanted, hgd]
  rw [if_pos hw]
  obtain ⟨i0, hi, hz0, hz1, hz2⟩ := info_parts infoOp
  have hmx : maxLen = 9223372036854775807 := rfl
  refine wp_append_own_src s x _ _ ho base 4 96 i0 _ Tryz.underlying32 hi hz0 hz1 (by rw [hz1]; rfl) (by omega) v os.length (opCells os) hv hown us.length (opCells us) hs.src (by omega) (by rw [hz2]; omega) hbase (fun v' w' h1 h2 h3 => ?_)
  rw [← opCells_append, ← List.length_append] at h1
  exact h v' w' h1 h2 (below_of_grown hown h2 hbase) (apart_of h3)
/-- .. as an operation of a walk -/
theorem wpList_append_ops {ops : Array Oper} {rest : List Oper} {o : Oper} {a : Act} {Q : Exit → Act → World → Prop} {w : World} (hgd : o.guard = none) (s x : Operand)
    (ho : o.op = .call { callee := .builtin .append, args := #[s, x], argTypes := #[32, 32] })
    (base : Nat) (v : Value) (os : List OpB) (hv : a.eval s = v) (hown : OwnS w base 4 v os.length (opCells os)) (us : List OpB) (hs : OpsAt w (a.eval x) us)
    (hlen : os.length + us.length ≤ 2932031007402) (hbase : base ≤ w.heap.size)
    (h : ∀ v' w', OwnS w' base 4 v' (os ++ us).length (opCells (os ++ us)) → w.grownBy w' v.ownBlock → Below base w w' → (∀ b, b < w.heap.size → v.ownBlock ≠ some b → v'.ownBlock ≠ some b) →
      wpList Tryz.prog ops Q rest (a.put o.dst v') w') : wpList Tryz.prog ops Q (o :: rest) a w := by
  obtain ⟨i0, hi, hz0, hz1, hz2⟩ := info_parts infoOp
  have hmx : maxLen = 9223372036854775807 := rfl
  refine wpList_append_own_src hgd s x _ _ ho base 4 96 i0 _ Tryz.underlying32 hi hz0 hz1 (by rw [hz1]; rfl) (by omega) v os.length (opCells os) hv hown us.length (opCells us) hs.src (by omega) (by rw [hz2]; omega) hbase (fun v' w' h1 h2 h3 => ?_)
  rw [← opCells_append, ← List.length_append] at h1
  exact h v' w' h1 h2 (below_of_grown hown h2 hbase) (apart_of h3)
theorem OwnS.shape {w : World} {base k : Nat} {v : Value} {n : Nat} {xs : List Value} (h : OwnS w base k v n xs) : ∃ a cap, v = .slice a n cap := by
  obtain ⟨_, ⟨rfl, rfl⟩ | ⟨g, off, cap, rfl, _⟩⟩ := h
  · exact ⟨none, 0, rfl⟩
  · exact ⟨_, cap, rfl⟩
theorem OwnS.ops {w : World} {base : Nat} {v : Value} {os : List OpB} (h : OwnS w base 4 v os.length (opCells os)) : OpsAt w v os := h.sliceAt
end Go.Proofs.YtkkfmkhbdoeglaaGreatDoor
