/- The laws for cursor.op with a good head. No condition. -/
import Derived.Test.YtkkfmkhbdoeglaaGreatDoorCurOp
import Derived.Test.YtkkfmkhbdoeglaaGreatDoorPlainA
namespace Go.Proofs.YtkkfmkhbdoeglaaGreatDoor
open Go.RowKit

theorem carry {w w' : World} {c b : Nat} {o : Obj} (hg : w.grownBy w' (some c)) (h : w.heap[b]? = some o) (hne : b ≠ c) : w'.heap[b]? = some o :=
  (hg.block b (block_lt h) (fun e => hne (by cases e; rfl))).trans h
theorem BytesAt.name {w : World} {v : Value} {l : List UInt8} (h : BytesAt w v l) : ∃ m, m = l ∧ BytesAt w v m := ⟨l, rfl, h⟩
theorem Cu.must_true (cu : Cu) (k : Nat) : cu.must true k = cu := by
  unfold Cu.must
  cases cu.f <;> rfl
theorem ShapesVar.grown {w w' : World} {c : Nat} (h : ShapesVar w) (hg : w.grownBy w' (some c)) (hc : 2 ≤ c) : ShapesVar w' :=
  h.old hg.size (hg.block _ (cell_lt h.c0) (fun e => by cases e; omega))
theorem MapAt.noFault {w : World} {r : Nat} {l : List (K × Value)} (h : MapAt w r l) : ∀ k n : Int, w.heap[r]? ≠ some (.cells #[.int .i64 k, .int .i64 n, .nilIface] 166 (0, 0)) := fun k n e => by
  obtain ⟨es, clock, h, _⟩ := h
  rw [h] at e
  cases e
theorem find_keys (k : K) : ∀ (l : List (K × Value)) (i : Nat), findK k l i = none ∨ ∃ j v, findK k l i = some (j, v)
  | l, i => by
    cases h : findK k l i with
    | none => exact .inl rfl
    | some x => exact .inr ⟨x.1, x.2, rfl⟩
theorem CurAt.eq {w : World} {base c : Nat} {cu cu' : Cu} (h : CurAt w base c cu) (e : cu = cu') : CurAt w base c cu' := e ▸ h
theorem atK_put (k : K) (v : Value) (l : List (K × Value)) : atK k (putK k v l) = some v := by
  have go : ∀ (l : List (K × Value)) (i : Nat), atK k (match findK k l i with | some (j, _) => l.set (j - i) (k, v) | none => l ++ [(k, v)]) = some v := by
    intro l
    induction l with
    | nil => intro i; simp [findK, atK]
    | cons x l ih =>
      intro i
      unfold findK
      cases hk : (k == x.1) with
      | true => simp [atK]
      | false =>
        rw [if_neg (by simp)]
        have h := ih (i + 1)
        cases hf : findK k l (i + 1) with
        | none =>
          rw [hf] at h
          unfold atK at h ⊢
          rw [List.cons_append, List.find?_cons, hk]
          exact h
        | some y =>
          obtain ⟨j, u⟩ := y
          rw [hf] at h
          have hj := (findK_get k l (i + 1) j u hf).1
          unfold atK at h ⊢
          simp only at h ⊢
          rw [show j - i = (j - (i + 1)) + 1 by omega, List.set_cons_succ, List.find?_cons, hk]
          exact h
  have h := go l 0
  unfold putK
  cases hf : findK k l 0 with
  | none => rw [hf] at h; exact h
  | some y =>
    obtain ⟨j, u⟩ := y
    rw [hf] at h
    exact h
theorem atK_ones (k : K) (ks : List K) : (atK k (ks.map fun k => (k, (Value.int .i64 1)))).getD (.int .i64 0) = .int .i64 (if ks.contains k then 1 else 0) := by
  unfold atK
  induction ks with
  | nil => rfl
  | cons x ks ih =>
    rw [List.map_cons, List.find?_cons, List.contains_cons]
    cases hk : (k == x) with
    | true => rfl
    | false => simpa using ih
/-- cursor.op behind a good head, in plain data -/
def Cu.opTail (C : Cu) (kd T : Int) (ks : List K) (kl vl : Nat) : Cu × OpB :=
  let C6 := ((C.take kl).1.must (isKeyB T (C.take kl).2) 7).must (!(ks.contains (T, (C.take kl).2))) 8
  if kd = 1 then ((C6.take vl).1.must (isValueB T (C6.take vl).2) 9, ⟨kd, T, (C.take kl).2, (C6.take vl).2⟩)
  else (C6, ⟨kd, T, (C.take kl).2, []⟩)
theorem Cu.must_f {cu : Cu} {ok : Bool} {k : Nat} (h : (cu.must ok k).f = none) : cu.f = none ∧ ok = true := by
  unfold Cu.must at h
  cases hc : cu.f with
  | some x => rw [hc] at h; rw [hc] at h; cases h
  | none =>
    rw [hc] at h
    cases ok with
    | true => exact ⟨rfl, rfl⟩
    | false => cases h
theorem Cu.take_f {cu : Cu} {n : Nat} (h : (cu.take n).1.f = none) : cu.f = none := by
  unfold Cu.take at h
  cases hc : cu.f with
  | some x => rw [hc] at h; rw [hc] at h; cases h
  | none => rfl
theorem opTail_seen {C : Cu} {kd T : Int} {ks : List K} {kl vl : Nat} (h : (C.opTail kd T ks kl vl).1.f = none) : ks.contains (T, (C.take kl).2) = false := by
  unfold Cu.opTail at h
  simp only at h
  split at h
  · simpa using (Cu.must_f (Cu.take_f (Cu.must_f h).1)).2
  · simpa using (Cu.must_f h).2
theorem putK_seen (k : K) (ks : List K) (h : ks.contains k = false) : putK k (.int .i64 1) (ks.map fun k => (k, (Value.int .i64 1))) = (ks ++ [k]).map fun k => (k, (Value.int .i64 1)) := by
  have hf : findK k (ks.map fun k => (k, (Value.int .i64 1))) 0 = none := findK_none k _ 0 fun x hx => by
    obtain ⟨y, hy, rfl⟩ := List.mem_map.1 hx
    intro e
    have : ks.contains k = true := by rw [List.contains_iff_mem]; exact e ▸ hy
    rw [h] at this
    cases this
  unfold putK
  rw [hf]
  simp
theorem Ext.grow {S : Nat → Prop} {a w w' : World} {i : Nat} (h : Ext S a w) (g : w.grownBy w' (some i)) (hi : S i ∨ a.heap.size ≤ i) : Ext S a w' :=
  ⟨g.os.trans h.os, g.tape.trans h.tape, g.output.trans h.output, Nat.le_trans h.size g.size, fun k hk hs => (g.block k (Nat.lt_of_lt_of_le hk h.size) (fun e => by cases e; rcases hi with hi | hi; exact hs hi; omega)).trans (h.block k hk hs)⟩
theorem Ext.past {S : Nat → Prop} {a w w' : World} (h : Ext S a w) (g : Below w.heap.size w w') : Ext S a w' :=
  ⟨g.os.trans h.os, g.tape.trans h.tape, g.output.trans h.output, Nat.le_trans h.size g.size, fun k hk hs => (g.block k (Nat.lt_of_lt_of_le hk h.size)).trans (h.block k hk hs)⟩
end Go.Proofs.YtkkfmkhbdoeglaaGreatDoor
