/- A part of what is proved here: lemmas and contracts of single functions. No condition but those that each names. -/
import Derived.Test.YtkkfmkhbdoeglabGreatDoorG03
import Derived.Test.YtkkfmkhbdoeglabGreatDoorG04
import Derived.Test.YtkkfmkhbdoeglabGreatDoorG07
namespace Go.Proofs.YtkkfmkhbdoeglabGreatDoor
open Go.RowKit
/-- parts of a string that a list tells -/
theorem run_str_to {P : Program} {t : TypeId} (ht : P.underlying t = some .string) (l : List UInt8) (k : IntKind) (n : Int) (h0 : 0 ≤ n) (h : n ≤ l.length) (w : World) :
    (Instr.slice t (.string ⟨l.toArray⟩) none (some (.int k n)) none).run P w = .ok (.string ⟨(l.take n.toNat).toArray⟩) w := by
  rw [run_slice_string_h w t ⟨l.toArray⟩ ht k n h0 (by simp [ByteArray.size]; omega), ByteArray.extract_mk]
  simp
end Go.Proofs.YtkkfmkhbdoeglabGreatDoor
namespace Go.Proofs.YtkkfmkhbdoeglabGreatDoor
open Go.RowKit
end Go.Proofs.YtkkfmkhbdoeglabGreatDoor
namespace Go.Proofs.YtkkfmkhbdoeglabGreatDoor
open Go.RowKit
theorem carry {w w' : World} {c b : Nat} {o : Obj} (hg : w.grownBy w' (some c)) (h : w.heap[b]? = some o) (hne : b ≠ c) : w'.heap[b]? = some o :=
  (hg.block b (block_lt h) (fun e => hne (by cases e; rfl))).trans h
theorem BytesAt.name {w : World} {v : Value} {l : List UInt8} (h : BytesAt w v l) : ∃ m, m = l ∧ BytesAt w v m := ⟨l, rfl, h⟩
theorem ShapesVar.grown {w w' : World} {c : Nat} (h : ShapesVar w) (hg : w.grownBy w' (some c)) (hc : 2 ≤ c) : ShapesVar w' :=
  h.old hg.size (hg.block _ (cell_lt h.c0) (fun e => by cases e; omega))
theorem MapAt.noFault {w : World} {r : Nat} {l : List (K × Value)} (h : MapAt w r l) : ∀ k n : Int, w.heap[r]? ≠ some (.cells #[.int .i64 k, .int .i64 n, .nilIface] 186 (0, 0)) := fun k n e => by
  obtain ⟨es, clock, h, _⟩ := h
  rw [h] at e
  cases e
theorem atK_put (k : K) (v : Value) (l : List (K × Value)) : atK k (putK k v l) = some v := by
  have go : ∀ (l : List (K × Value)) (i : Nat), atK k (match findK k l i with | some (j, _) => l.set (j - i) (k, v) | none => l ++ [(k, v)]) = some v := by
    intro l
    induction l with
    | nil => intro i; simp [findK, atK]
    | cons x l ih =>
      intro i
      unfold findK
      cases hk : (k == x.1) with
      | true => simp [atK]
      | false =>
        rw [if_neg (by simp)]
        have h := ih (i + 1)
        cases hf : findK k l (i + 1) with
        | none =>
          rw [hf] at h
          unfold atK at h ⊢
          rw [List.cons_append, List.find?_cons, hk]
          exact h
        | some y =>
          obtain ⟨j, u⟩ := y
          rw [hf] at h
          have hj := (findK_get k l (i + 1) j u hf).1
          unfold atK at h ⊢
          simp only at h ⊢
          rw [show j - i = (j - (i + 1)) + 1 by omega, List.set_cons_succ, List.find?_cons, hk]
          exact h
  have h := go l 0
  unfold putK
  cases hf : findK k l 0 with
  | none => rw [hf] at h; exact h
  | some y =>
    obtain ⟨j, u⟩ := y
    rw [hf] at h
    exact h
theorem atK_ones (k : K) (ks : List K) : (atK k (ks.map fun k => (k, (Value.int .i64 1)))).getD (.int .i64 0) = .int .i64 (if ks.contains k then 1 else 0) := by
  unfold atK
  induction ks with
  | nil => rfl
  | cons x ks ih =>
    rw [List.map_cons, List.find?_cons, List.contains_cons]
    cases hk : (k == x) with
    | true => rfl
    | false => simpa using ih
/-- cursor.op behind a good head, in plain data -/
def Cu.opTail (C : Cu) (kd T : Int) (ks : List K) (kl vl : Nat) : Cu × OpB :=
  let C6 := ((C.take kl).1.must (isKeyB T (C.take kl).2) 7).must (!(ks.contains (T, (C.take kl).2))) 8
  if kd = 1 then ((C6.take vl).1.must (isValueB T (C6.take vl).2) 9, ⟨kd, T, (C.take kl).2, (C6.take vl).2⟩)
  else (C6, ⟨kd, T, (C.take kl).2, []⟩)
theorem putK_seen (k : K) (ks : List K) (h : ks.contains k = false) : putK k (.int .i64 1) (ks.map fun k => (k, (Value.int .i64 1))) = (ks ++ [k]).map fun k => (k, (Value.int .i64 1)) := by
  have hf : findK k (ks.map fun k => (k, (Value.int .i64 1))) 0 = none := findK_none k _ 0 fun x hx => by
    obtain ⟨y, hy, rfl⟩ := List.mem_map.1 hx
    intro e
    have : ks.contains k = true := by rw [List.contains_iff_mem]; exact e ▸ hy
    rw [h] at this
    cases this
  unfold putK
  rw [hf]
  simp
theorem Ext.grow {S : Nat → Prop} {a w w' : World} {i : Nat} (h : Ext S a w) (g : w.grownBy w' (some i)) (hi : S i ∨ a.heap.size ≤ i) : Ext S a w' :=
  ⟨g.os.trans h.os, g.tape.trans h.tape, g.output.trans h.output, Nat.le_trans h.size g.size, fun k hk hs => (g.block k (Nat.lt_of_lt_of_le hk h.size) (fun e => by cases e; rcases hi with hi | hi; exact hs hi; omega)).trans (h.block k hk hs)⟩
theorem Ext.past {S : Nat → Prop} {a w w' : World} (h : Ext S a w) (g : Below w.heap.size w w') : Ext S a w' :=
  ⟨g.os.trans h.os, g.tape.trans h.tape, g.output.trans h.output, Nat.le_trans h.size g.size, fun k hk hs => (g.block k (Nat.lt_of_lt_of_le hk h.size)).trans (h.block k hk hs)⟩
end Go.Proofs.YtkkfmkhbdoeglabGreatDoor
namespace Go.Proofs.YtkkfmkhbdoeglabGreatDoor
open Go.RowKit
/-- cursor.op, in plain data -/
def Cu.op (cu : Cu) (ks : List K) : Cu × OpB :=
  match (cu.take 2).2 with
  | [x, y] =>
    let C := ((cu.take 2).1.must (x.toNat == 1 || x.toNat == 2) 6).must (decide (y.toNat < 3)) 6
    match C.f with
    | some _ => (C, ⟨x.toNat, y.toNat, [], []⟩)
    | none => C.opTail x.toNat y.toNat ks (keyLen y.toNat) (valLen y.toNat)
  | _ => (cu, ⟨0, 0, [], []⟩)
end Go.Proofs.YtkkfmkhbdoeglabGreatDoor
namespace Go.Proofs.YtkkfmkhbdoeglabGreatDoor
open Go.RowKit
/-- Decode's loop, in plain data -/
def decLoop : Nat → Cu → List K → List OpB → Cu × List OpB
  | 0, c, _, os => (c, os)
  | n + 1, c, ks, os =>
    match c.f with
    | some _ => (c, os)
    | none => decLoop n (c.op ks).1 (ks ++ [((c.op ks).2.table, (c.op ks).2.key)]) (os ++ [(c.op ks).2])
/-- the delta that bytes are, or a fault and where -/
def decB (l : List UInt8) : (Nat × List OpB) ⊕ (Nat × Nat) :=
  let a := Cu.take ⟨l, 0, 0, none⟩ 8
  let b := (a.1.must (isVersionB (numB a.2)) 4).take 1
  let n := (b.2.headD 0).toNat
  let L := decLoop n (b.1.must (decide (1 ≤ n) && decide (n ≤ 8)) 5) [] []
  match L.1.ended.f with
  | some f => .inr f
  | none => .inl (numB a.2, L.2)
end Go.Proofs.YtkkfmkhbdoeglabGreatDoor
namespace Go.Proofs.YtkkfmkhbdoeglabGreatDoor
open Go.RowKit
def valOk (o : OpB) : Bool := if o.kind = 2 then o.val == [] else isValueB o.table o.val
/-- what is wrong with a change, by the keys ahead of it (0: nothing) -/
def opWrong (o : OpB) (ahead : List K) : Nat :=
  if o.kind < 1 ∨ 2 < o.kind ∨ o.table < 0 ∨ 2 < o.table then 6
  else if isKeyB o.table o.key = false then 7
  else if ahead.contains (o.table, o.key) = true then 8
  else if valOk o = false then 9
  else 0
def wrongFrom : Nat → List K → List OpB → Option (Nat × Nat)
  | _, _, [] => none
  | i, ks, o :: os => if opWrong o ks = 0 then wrongFrom (i + 1) (ks ++ [(o.table, o.key)]) os else some (opWrong o ks, i)
/-- what is wrong with a delta -/
def wrongB (v : Nat) (os : List OpB) : Option (Nat × Nat) :=
  if isVersionB v = false then some (4, 0)
  else if os.length < 1 ∨ 8 < os.length then some (5, 0)
  else wrongFrom 0 [] os
def opBytes (o : OpB) : List UInt8 := UInt8.ofNat o.kind.toNat :: UInt8.ofNat o.table.toNat :: (o.key ++ o.val)
/-- a delta's bytes -/
def encB (v : Nat) (os : List OpB) : List UInt8 := be8 v ++ UInt8.ofNat os.length :: os.flatMap opBytes
theorem isKeyB_length {t : Int} {k : List UInt8} (h : isKeyB t k = true) : k.length = keyLen t :=
  Decidable.byContradiction fun hn => by rw [isKeyB_len hn] at h; cases h
theorem isValueB_length {t : Int} {k : List UInt8} (h0 : 0 ≤ t) (h2 : t < 3) (h : isValueB t k = true) : k.length = valLen t :=
  Decidable.byContradiction fun hn => by rw [isValueB_len h0 h2 hn] at h; cases h
theorem opWrong_zero {o : OpB} {ks : List K} (h : opWrong o ks = 0) :
    (o.kind = 1 ∨ o.kind = 2) ∧ 0 ≤ o.table ∧ o.table < 3 ∧ isKeyB o.table o.key = true ∧ ks.contains (o.table, o.key) = false ∧ valOk o = true := by
  unfold opWrong at h
  split at h
  · cases h
  · split at h
    · cases h
    · split at h
      · cases h
      · split at h
        · cases h
        · rename_i h1 h2 h3 h4
          exact ⟨by omega, by omega, by omega, (by simpa using h2), Bool.not_eq_true _ ▸ h3, (by simpa using h4)⟩
theorem opWrong_of {o : OpB} {ks : List K} (h1 : o.kind = 1 ∨ o.kind = 2) (h2 : 0 ≤ o.table) (h3 : o.table < 3) (h4 : isKeyB o.table o.key = true) (h5 : ks.contains (o.table, o.key) = false) (h6 : valOk o = true) : opWrong o ks = 0 := by
  unfold opWrong
  rw [if_neg (by omega), h4, if_neg (by decide), h5, if_neg (by decide), h6, if_neg (by decide)]
theorem numB_be8 (v : Nat) (h : v < 18446744073709551616) : numB (be8 v) = v := by
  simp [numB, be8, List.range, List.range.loop]
  omega
theorem isVersionB_lt {v : Nat} (h : isVersionB v = true) : v < 18446744073709551616 := by
  unfold isVersionB at h; simp at h; omega
theorem opWrong_kind (o : OpB) (ks : List K) (h : opWrong o ks ≠ 0) : 1 ≤ opWrong o ks ∧ opWrong o ks ≤ 14 := by
  refine ⟨by omega, ?_⟩
  unfold opWrong
  repeat' split
  all_goals omega
theorem wrongFrom_kind : ∀ (os : List OpB) (i : Nat) (ks : List K) {f : Nat × Nat}, wrongFrom i ks os = some f → 1 ≤ f.1 ∧ f.1 ≤ 14 ∧ i ≤ f.2 ∧ f.2 < i + os.length
  | [], i, ks, f, h => by cases h
  | o :: os, i, ks, f, h => by
    unfold wrongFrom at h
    split at h
    · have := wrongFrom_kind os (i + 1) _ h
      rw [List.length_cons]
      omega
    · rename_i h0
      cases h
      have := opWrong_kind o ks h0
      simp only [List.length_cons]
      omega
theorem wrongB_kind {v : Nat} {os : List OpB} {f : Nat × Nat} (h : wrongB v os = some f) : 1 ≤ f.1 ∧ f.1 ≤ 14 ∧ f.2 ≤ 8 := by
  unfold wrongB at h
  split at h
  · cases h; simp
  · split at h
    · cases h; simp
    · have := wrongFrom_kind os 0 [] h
      omega
end Go.Proofs.YtkkfmkhbdoeglabGreatDoor
