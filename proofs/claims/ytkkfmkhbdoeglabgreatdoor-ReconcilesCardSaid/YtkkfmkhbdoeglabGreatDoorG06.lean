/- A part of what is proved here: lemmas and contracts of single functions. No condition but those that each names. -/
import Derived.LoopTactic
import Derived.Maps.OwnSet
import Derived.WideKeyEntry
import Derived.Test.YtkkfmkhbdoeglabGreatDoorG04
namespace Go.Proofs.YtkkfmkhbdoeglabGreatDoor
open Go.RowKit
abbrev K := Int × List UInt8
def kV (x : K) : Value := keyV x.1 x.2
theorem check_key (em : Bool) (x : K) (w : World) : (Instr.checkKey em 10000 103 (kV x)).run Tryz.prog w = .ok () w := by
  have h : ∀ n, (Instr.checkKey em (n + 2) 103 (kV x)).run Tryz.prog w = .ok () w := by
    intro n
    have h1 : (part 3 #[Value.int .i64 x.1, .string ⟨x.2.toArray⟩] 0).run Tryz.prog w = .ok (.int .i64 x.1) w := run_part_plain w (by kernel_rfl) rfl
    have h2 : (part 9 #[Value.int .i64 x.1, .string ⟨x.2.toArray⟩] 1).run Tryz.prog w = .ok (.string ⟨x.2.toArray⟩) w := run_part_plain w (by kernel_rfl) rfl
    simp [Instr.checkKey, kV, keyV, run_underlying Tryz.underlying103, run_underlying Tryz.underlying3, run_underlying Tryz.underlying9, h1, h2, Result.andThen]
  exact h 9998
theorem equal_key (x y : K) (w : World) : (Op.equal 103 (kV x) (kV y)).run Tryz.prog w = .ok (x == y) w := by
  have h1 : ∀ x : K, (part 3 #[Value.int .i64 x.1, .string ⟨x.2.toArray⟩] 0).run Tryz.prog w = .ok (.int .i64 x.1) w := fun x => run_part_plain w (by kernel_rfl) rfl
  have h2 : ∀ x : K, (part 9 #[Value.int .i64 x.1, .string ⟨x.2.toArray⟩] 1).run Tryz.prog w = .ok (.string ⟨x.2.toArray⟩) w := fun x => run_part_plain w (by kernel_rfl) rfl
  obtain ⟨a, b⟩ := x
  obtain ⟨c, d⟩ := y
  have hd : ∀ n, (Op.equalIn (n + 2) 103 (keyV a b) (keyV c d)).run Tryz.prog w = .ok ((a, b) == (c, d)) w := by
    intro n
    have hb : ((⟨b.toArray⟩ : ByteArray) == ⟨d.toArray⟩) = (b == d) := by
      cases hbd : (b == d) with
      | true => rw [beq_iff_eq] at hbd; subst hbd; exact (MapKept.bytes_beq _ _).2 rfl
      | false =>
        rw [beq_eq_false_iff_ne] at hbd
        cases hx : ((⟨b.toArray⟩ : ByteArray) == ⟨d.toArray⟩) with
        | false => rfl
        | true =>
          have := (MapKept.bytes_beq _ _).1 hx
          simp at this
          exact absurd this hbd
    have ht : Tryz.prog.underlying 103 = some (.struct (Tryz.prog.fieldsOf 103)) := by kernel_rfl
    have hp : Tryz.prog.stoodInHeld 103 = false := by kernel_rfl
    have hf := TypeDesc.struct.inj (Option.some.inj (ht.symm.trans Tryz.underlying103))
    have k1 : ∀ m (x y : Int), (Op.equalIn (m + 1) 3 (.int .i64 x) (.int .i64 y)).run Tryz.prog w = .ok (x == y) w := fun m x y => by simp [Op.equalIn, run_underlying Tryz.underlying3]
    have k2 : ∀ m (x y : ByteArray), (Op.equalIn (m + 1) 9 (.string x) (.string y)).run Tryz.prog w = .ok (x == y) w := fun m x y => by simp [Op.equalIn, run_underlying Tryz.underlying9]
    unfold keyV
    rw [run_equalIn_agg w (n + 1) 103 _ _ ht hp, hf]
    simp only [Op.eqFields]
    rw [if_pos (by decide), if_pos (by decide)]
    simp only [Sem.run_bind, h1 (a, b), h1 (c, d), k1, Result.andThen_ok]
    show _ = Result.ok ((a == c) && (b == d)) w
    cases hac : (a == c) with
    | false => simp
    | true =>
      simp only [Bool.not_true, Bool.false_eq_true, if_false, Sem.run_bind, h2 (a, b), h2 (c, d), k2, Result.andThen_ok, hb, Bool.true_and]
      cases (b == d) <;> simp
  exact hd 9998
/-- the place of a key among entries -/
def findK (k : K) : List (K × Value) → Nat → Option (Nat × Value)
  | [], _ => none
  | e :: es, i => if k == e.1 then some (i, e.2) else findK k es (i + 1)
theorem find_key (k : K) (w : World) : ∀ (es : List MapEntry) (l : List (K × Value)) (_ : es.map (fun e => (e.key, e.val)) = l.map (fun x => (kV x.1, x.2))), (Instr.findKey 103 (kV k) es).run Tryz.prog w = .ok (findK k l 0) w := by
  have go : ∀ (es : List MapEntry) (l : List (K × Value)) (i : Nat) (_ : es.map (fun e => (e.key, e.val)) = l.map (fun x => (kV x.1, x.2))), (Instr.findAsking 103 (kV k) es i).run Tryz.prog w = .ok (findK k l i) w := by
    intro es
    induction es with
    | nil =>
      intro l i h
      cases l with
      | nil => rfl
      | cons x l => cases h
    | cons e es ih =>
      intro l i h
      cases l with
      | nil => cases h
      | cons x l =>
        rw [List.map_cons, List.map_cons] at h
        have h1 := (List.cons.inj h).1
        have h2 := (List.cons.inj h).2
        have e1 : e.key = kV x.1 := (Prod.mk.inj h1).1
        have e2 : e.val = x.2 := (Prod.mk.inj h1).2
        unfold Instr.findAsking findK
        rw [Sem.run_bind, e1, equal_key]
        cases hk : (k == x.1) with
        | false =>
          rw [Result.andThen_ok]
          exact ih l (i + 1) h2
        | true =>
          rw [e2]
          rfl
  intro es l h
  rw [run_findKey_eq w (k := 103) (by rw [Tryz.underlying103])]
  exact go es l 0 h
theorem stays_key (x : K) (w : World) : (Instr.keyThatStays (kV x) (kV x)).run Tryz.prog w = .ok (kV x) w := by
  have h : ∀ n, Instr.sameBits (n + 2) (kV x) (kV x) = true := by
    intro n
    simp [Instr.sameBits, kV, keyV]
    exact (MapKept.bytes_beq _ _).2 rfl
  have h' : Instr.sameBits 10000 (kV x) (kV x) = true := h 9998
  simp only [Instr.keyThatStays, h', if_true]
  rfl
/-- a block is a map that holds just these entries, in the order in which they were laid -/
def MapAt (w : World) (r : Nat) (l : List (K × Value)) : Prop :=
  ∃ es clock, w.heap[r]? = some (.map es clock) ∧ es.toList.map (fun e => (e.key, e.val)) = l.map (fun x => (kV x.1, x.2)) ∧ (∀ e ∈ es.toList, e.born < clock) ∧ (es.toList.map (·.born)).Nodup ∧ (l.map (·.1)).Nodup
theorem MapAt.lt {w : World} {r : Nat} {l : List (K × Value)} (h : MapAt w r l) : r < w.heap.size := by
  obtain ⟨es, clock, h, _⟩ := h
  exact block_lt h
theorem MapAt.old {w w' : World} {r : Nat} {l : List (K × Value)} (h : MapAt w r l) (hb : w'.heap[r]? = w.heap[r]?) : MapAt w' r l := by
  obtain ⟨es, clock, h, x⟩ := h
  exact ⟨es, clock, hb.trans h, x⟩
theorem MapAt.new (w : World) : MapAt (w.alloc (.map #[] 0)) w.heap.size [] := ⟨#[], 0, heap_new _ _, rfl, by simp, by simp, by simp⟩
/-- what a key leads to -/
def atK (k : K) (l : List (K × Value)) : Option Value := (l.find? (fun x => k == x.1)).map (·.2)
theorem findK_atK (k : K) : ∀ (l : List (K × Value)) (i : Nat), (findK k l i).map (·.2) = atK k l
  | [], i => rfl
  | x :: l, i => by
    unfold findK atK
    rw [List.find?_cons]
    cases h : (k == x.1) with
    | true => rfl
    | false => exact findK_atK k l (i + 1)
theorem findK_none (k : K) : ∀ (l : List (K × Value)) (i : Nat), (∀ x ∈ l, x.1 ≠ k) → findK k l i = none
  | [], i, _ => rfl
  | x :: l, i, h => by
    unfold findK
    have : (k == x.1) = false := by rw [beq_eq_false_iff_ne]; exact fun e => h x List.mem_cons_self e.symm
    rw [this]
    exact findK_none k l (i + 1) fun y hy => h y (List.mem_cons_of_mem _ hy)
section
variable {w : World} {r : Nat} {l : List (K × Value)} {mt e : TypeId} {z : Value}
theorem MapAt.lookup (h : MapAt w r l) (ht : Tryz.prog.underlying mt = some (.map 103 e)) (hz : (zeroValue e).run Tryz.prog w = .ok z w) (k : K) :
    (Instr.lookup mt (.map (some r)) (kV k) false).run Tryz.prog w = .ok ((atK k l).getD z) w := by
  obtain ⟨es, clock, hb, hl, _⟩ := h
  have hf := find_key k w es.toList l hl
  rw [← findK_atK k l 0]
  cases hk : findK k l 0 with
  | none =>
    rw [hk] at hf
    simp [Instr.lookup, run_underlying ht, MapKept.run_getObj_map hb, check_key, hf, hz, Result.andThen]
  | some x =>
    rw [hk] at hf
    obtain ⟨i, v⟩ := x
    simp [Instr.lookup, run_underlying ht, MapKept.run_getObj_map hb, check_key, hf, Result.andThen]
theorem MapAt.lookup_ok (h : MapAt w r l) (ht : Tryz.prog.underlying mt = some (.map 103 e)) (hz : (zeroValue e).run Tryz.prog w = .ok z w) (k : K) :
    (Instr.lookup mt (.map (some r)) (kV k) true).run Tryz.prog w = .ok (.tuple #[(atK k l).getD z, .bool (atK k l).isSome]) w := by
  obtain ⟨es, clock, hb, hl, _⟩ := h
  have hf := find_key k w es.toList l hl
  rw [← findK_atK k l 0]
  cases hk : findK k l 0 with
  | none =>
    rw [hk] at hf
    simp [Instr.lookup, run_underlying ht, MapKept.run_getObj_map hb, check_key, hf, hz, Result.andThen]
  | some x =>
    rw [hk] at hf
    obtain ⟨i, v⟩ := x
    simp [Instr.lookup, run_underlying ht, MapKept.run_getObj_map hb, check_key, hf, Result.andThen]
end
end Go.Proofs.YtkkfmkhbdoeglabGreatDoor
namespace Go.Proofs.YtkkfmkhbdoeglabGreatDoor
open Go.RowKit Go.WideElems Go.WideMaps Go.ChangeMaps
def putK (k : K) (v : Value) (l : List (K × Value)) : List (K × Value) :=
  match findK k l 0 with
  | some (j, _) => l.set j (k, v)
  | none => l ++ [(k, v)]
def dropK (k : K) (l : List (K × Value)) : List (K × Value) :=
  match findK k l 0 with
  | some (j, _) => l.eraseIdx j
  | none => l
theorem findK_get (k : K) : ∀ (l : List (K × Value)) (i j : Nat) (v : Value), findK k l i = some (j, v) → i ≤ j ∧ l[j - i]? = some (k, v)
  | [], _, _, _, h => by simp [findK] at h
  | x :: l, i, j, v, h => by
    unfold findK at h
    cases hk : (k == x.1) with
    | true =>
      rw [hk, if_pos rfl] at h
      cases h
      rw [beq_iff_eq] at hk
      subst hk
      simp
    | false =>
      rw [hk, if_neg (by simp)] at h
      obtain ⟨h1, h2⟩ := findK_get k l (i + 1) j v h
      refine ⟨by omega, ?_⟩
      rw [show j - i = (j - (i + 1)) + 1 by omega, List.getElem?_cons_succ]
      exact h2
theorem findK_absent (k : K) : ∀ (l : List (K × Value)) (i : Nat), findK k l i = none → ∀ x ∈ l, x.1 ≠ k
  | [], _, _, x, hx => by simp at hx
  | y :: l, i, h, x, hx => by
    unfold findK at h
    cases hk : (k == y.1) with
    | true => rw [hk, if_pos rfl] at h; cases h
    | false =>
      rw [hk, if_neg (by simp)] at h
      rcases List.mem_cons.1 hx with rfl | hx
      · rw [beq_eq_false_iff_ne] at hk
        exact fun e => hk e.symm
      · exact findK_absent k l (i + 1) h x hx
theorem set_keys {l : List (K × Value)} {j : Nat} {k : K} {v u : Value} (h : l[j]? = some (k, u)) : (l.set j (k, v)).map (·.1) = l.map (·.1) := by
  rw [List.map_set]
  exact set_self _ _ _ (by rw [List.getElem?_map, h]; rfl)
theorem grownBy_setBlock {w : World} {r : Nat} {es : Array MapEntry} {clock : Nat} {o' : Obj} (h : w.heap[r]? = some (.map es clock)) : w.grownBy (setBlock w r o') (some r) :=
  ⟨rfl, rfl, rfl, by simp [setBlock], fun k _ hk => heap_setBlock_other h _ (fun e => hk (by rw [e]))⟩
theorem heap_setBlock_at {w : World} {r : Nat} {o o' : Obj} (h : w.heap[r]? = some o) : (setBlock w r o').heap[r]? = some o' := by
  have hlt := block_lt h
  simp [setBlock, hlt]
section
variable {w : World} {r : Nat} {l : List (K × Value)} {mt e : TypeId} {z : Value}
theorem MapAt.entry (h : MapAt w r l) (ht : Tryz.prog.underlying mt = some (.map 103 e)) (hz : ∀ u : World, (zeroValue e).run Tryz.prog u = .ok z u) (k : K) :
    ∃ W1 st, (∀ n, (Instr.mapEntry mt (.map (some r)) (kV k)).run Tryz.prog (w.drewN n) = .ok (.tuple #[(atK k l).getD z, goInt st]) (W1.drewN n)) ∧ MapAt W1 r (putK k ((atK k l).getD z) l) ∧ w.grownBy W1 (some r) ∧ W1.heap.size = w.heap.size ∧
      ∀ v, ∃ W2, (∀ n, (Instr.entryStore mt (.map (some r)) (goInt st) v).run Tryz.prog (W1.drewN n) = .ok () (W2.drewN n)) ∧ MapAt W2 r (putK k v l) ∧ W1.grownBy W2 (some r) ∧ W2.heap.size = W1.heap.size := by
  obtain ⟨es, clock, hb, hl, hc, hn, hk⟩ := h
  have hf : ∀ n, (Instr.findKey 103 (kV k) es.toList).run Tryz.prog (w.drewN n) = .ok (findK k l 0) (w.drewN n) := fun n => find_key k (w.drewN n) es.toList l hl
  have hbn : ∀ n, (w.drewN n).heap[r]? = some (.map es clock) := fun n => hb
  rw [← findK_atK k l 0]
  unfold putK
  cases hfk : findK k l 0 with
  | none =>
    rw [hfk] at hf
    have habs := findK_absent k l 0 hfk
    have hborn : (es.push ⟨kV k, z, clock⟩).toList.map (·.born) = es.toList.map (·.born) ++ [clock] := by simp
    have hnd : ((es.push ⟨kV k, z, clock⟩).toList.map (·.born)).Nodup := by
      rw [hborn]
      refine List.nodup_append.2 ⟨hn, by simp, fun a ha c hc' e1 => ?_⟩
      simp only [List.mem_singleton] at hc'
      obtain ⟨x, hx, rfl⟩ := List.mem_map.1 ha
      have := hc x hx
      omega
    have hkd : ∀ v : Value, ((l ++ [(k, v)]).map (·.1)).Nodup := fun v => by
      rw [List.map_append]
      refine List.nodup_append.2 ⟨hk, by simp, fun a ha c hc' e1 => ?_⟩
      simp at hc'
      obtain ⟨x, hx, rfl⟩ := List.mem_map.1 ha
      exact habs x hx (e1.trans hc')
    have hbl : ∀ v : Value, ∀ x ∈ (es.push ⟨kV k, v, clock⟩).toList, x.born < clock + 1 := by
      intro v x hx
      simp at hx
      rcases hx with hx | rfl
      · have := hc x (by simpa using hx); omega
      · simp
    have hW1 : (setBlock w r (.map (es.push ⟨kV k, z, clock⟩) (clock + 1))).heap[r]? = some (.map (es.push ⟨kV k, z, clock⟩) (clock + 1)) := heap_setBlock_at hb
    refine ⟨setBlock w r (.map (es.push ⟨kV k, z, clock⟩) (clock + 1)), clock, fun n => ?_, ⟨_, _, hW1, by simp [hl], hbl z, hnd, hkd _⟩, grownBy_setBlock hb, by simp [setBlock],
      fun v => ⟨setBlock (setBlock w r (.map (es.push ⟨kV k, z, clock⟩) (clock + 1))) r (.map (es.push ⟨kV k, v, clock⟩) (clock + 1)), fun n => ?_, ⟨_, _, heap_setBlock_at hW1, by simp [hl], hbl v, by simpa using hnd, hkd _⟩, grownBy_setBlock hW1, by simp [setBlock]⟩⟩
    · simp [Instr.mapEntry, run_underlying ht, MapKept.run_getObj_map (hbn n), check_key, hf, hz, MapKept.run_setObj_map _ (hbn n), Result.andThen]
      rfl
    · have hidx : (es.push ⟨kV k, z, clock⟩).findIdx? (fun e => ((e.born : Nat) : Int) == ((clock : Nat) : Int)) = some es.size := by
        rw [findIdx_arr]
        exact findIdx_born (l := (es.push ⟨kV k, z, clock⟩).toList) (j := es.size) (e0 := ⟨kV k, z, clock⟩) hnd (by simp)
      have hmod : (es.push ⟨kV k, z, clock⟩).modify es.size (fun e => { e with val := v }) = es.push ⟨kV k, v, clock⟩ := by
        apply Array.ext'
        rw [Array.toList_modify, Array.toList_push, Array.toList_push, ← Array.length_toList, modify_last]
      have hW1n : ((setBlock w r (.map (es.push ⟨kV k, z, clock⟩) (clock + 1))).drewN n).heap[r]? = some (.map (es.push ⟨kV k, z, clock⟩) (clock + 1)) := hW1
      simp [Instr.entryStore, MapKept.run_getObj_map hW1n, asInt, asIntOf, goInt, hidx, hmod, MapKept.run_setObj_map _ hW1n, Result.andThen]
      rfl
  | some x =>
    obtain ⟨j, u⟩ := x
    rw [hfk] at hf
    obtain ⟨-, hj⟩ := findK_get k l 0 j u hfk
    rw [Nat.sub_zero] at hj
    have hje : ∃ e0, es.toList[j]? = some e0 ∧ e0.key = kV k ∧ e0.val = u := by
      have h1 : (es.toList.map (fun e => (e.key, e.val)))[j]? = some (kV k, u) := by rw [hl, List.getElem?_map, hj]; rfl
      rw [List.getElem?_map] at h1
      obtain ⟨e0, h2, h3⟩ := Option.map_eq_some_iff.1 h1
      exact ⟨e0, h2, (Prod.mk.inj h3).1, (Prod.mk.inj h3).2⟩
    obtain ⟨e0, h2, h3, h4⟩ := hje
    have hjs : es[j]? = some e0 := by simpa using h2
    have hsame : es.modify j (fun e => { e with key := kV k }) = es := by
      apply Array.ext'
      rw [Array.toList_modify, modify_eq_set _ _ _ _ h2]
      have : ({ e0 with key := kV k } : MapEntry) = e0 := by rw [← h3]
      rw [this]
      exact set_self _ _ _ h2
    have hset : l.set j (k, u) = l := set_self _ _ _ hj
    simp only [Option.map_some, Option.getD_some, hset]
    have hW1 : (setBlock w r (.map es clock)).heap[r]? = some (.map es clock) := heap_setBlock_at hb
    refine ⟨setBlock w r (.map es clock), e0.born, fun n => ?_, ⟨_, _, hW1, hl, hc, hn, hk⟩, grownBy_setBlock hb, by simp [setBlock],
      fun v => ⟨setBlock (setBlock w r (.map es clock)) r (.map (es.modify j (fun e => { e with val := v })) clock), fun n => ?_, ⟨_, _, heap_setBlock_at hW1, ?_, ?_, ?_, ?_⟩, grownBy_setBlock hW1, by simp [setBlock]⟩⟩
    · simp [Instr.mapEntry, run_underlying ht, MapKept.run_getObj_map (hbn n), check_key, hf, hjs, h3, stays_key, hsame, MapKept.run_setObj_map _ (hbn n), Result.andThen]
      rfl
    · have hidx : es.findIdx? (fun e => ((e.born : Nat) : Int) == ((e0.born : Nat) : Int)) = some j := by
        rw [findIdx_arr]
        exact findIdx_born hn h2
      have hW1n : ((setBlock w r (.map es clock)).drewN n).heap[r]? = some (.map es clock) := hW1
      simp [Instr.entryStore, MapKept.run_getObj_map hW1n, asInt, asIntOf, goInt, hidx, MapKept.run_setObj_map _ hW1n, Result.andThen]
      rfl
    · rw [Array.toList_modify, modify_eq_set _ _ _ _ h2, List.map_set, hl, List.map_set, h3]
    · intro x hx
      rw [Array.toList_modify, modify_eq_set _ _ _ _ h2] at hx
      rcases List.mem_or_eq_of_mem_set hx with hx | rfl
      · exact hc x hx
      · exact hc e0 (List.mem_of_getElem? h2)
    · rw [Array.toList_modify, modify_eq_set _ _ _ _ h2, List.map_set]
      rw [set_self _ _ _ (by rw [List.getElem?_map, h2]; rfl)]
      exact hn
    · rw [set_keys hj]
      exact hk
end
end Go.Proofs.YtkkfmkhbdoeglabGreatDoor
namespace Go.Proofs.YtkkfmkhbdoeglabGreatDoor
open Go.RowKit Go.WideElems Go.ChangeMaps
section
variable {w : World} {r : Nat} {l : List (K × Value)} {mt e : TypeId} {z : Value}
/-- m[k] = v -/
theorem MapAt.update (h : MapAt w r l) (ht : Tryz.prog.underlying mt = some (.map 103 e)) (k : K) (v : Value) :
    ∃ W1, (∀ n, (Instr.mapUpdate mt (.map (some r)) (kV k) v).run Tryz.prog (w.drewN n) = .ok () (W1.drewN n)) ∧ MapAt W1 r (putK k v l) ∧ w.grownBy W1 (some r) ∧ W1.heap.size = w.heap.size := by
  obtain ⟨es, clock, hb, hl, hc, hn, hk⟩ := h
  have hf : ∀ n, (Instr.findKey 103 (kV k) es.toList).run Tryz.prog (w.drewN n) = .ok (findK k l 0) (w.drewN n) := fun n => find_key k (w.drewN n) es.toList l hl
  have hbn : ∀ n, (w.drewN n).heap[r]? = some (.map es clock) := fun n => hb
  unfold putK
  cases hfk : findK k l 0 with
  | none =>
    rw [hfk] at hf
    have habs := findK_absent k l 0 hfk
    have hborn : (es.push ⟨kV k, v, clock⟩).toList.map (·.born) = es.toList.map (·.born) ++ [clock] := by simp
    have hnd : ((es.push ⟨kV k, v, clock⟩).toList.map (·.born)).Nodup := by
      rw [hborn]
      refine List.nodup_append.2 ⟨hn, by simp, fun a ha c hc' e1 => ?_⟩
      simp only [List.mem_singleton] at hc'
      obtain ⟨x, hx, rfl⟩ := List.mem_map.1 ha
      have := hc x hx
      omega
    have hkd : ((l ++ [(k, v)]).map (·.1)).Nodup := by
      rw [List.map_append]
      refine List.nodup_append.2 ⟨hk, by simp, fun a ha c hc' e1 => ?_⟩
      simp at hc'
      obtain ⟨x, hx, rfl⟩ := List.mem_map.1 ha
      exact habs x hx (e1.trans hc')
    have hbl : ∀ x ∈ (es.push ⟨kV k, v, clock⟩).toList, x.born < clock + 1 := by
      intro x hx
      simp at hx
      rcases hx with hx | rfl
      · have := hc x (by simpa using hx); omega
      · simp
    refine ⟨setBlock w r (.map (es.push ⟨kV k, v, clock⟩) (clock + 1)), fun n => ?_, ⟨_, _, heap_setBlock_at hb, by simp [hl], hbl, hnd, hkd⟩, grownBy_setBlock hb, by simp [setBlock]⟩
    simp [Instr.mapUpdate, run_underlying ht, MapKept.run_getObj_map (hbn n), check_key, hf, MapKept.run_setObj_map _ (hbn n), Result.andThen]
    rfl
  | some x =>
    obtain ⟨j, u⟩ := x
    rw [hfk] at hf
    obtain ⟨-, hj⟩ := findK_get k l 0 j u hfk
    rw [Nat.sub_zero] at hj
    have hje : ∃ e0, es.toList[j]? = some e0 ∧ e0.key = kV k ∧ e0.val = u := by
      have h1 : (es.toList.map (fun e => (e.key, e.val)))[j]? = some (kV k, u) := by rw [hl, List.getElem?_map, hj]; rfl
      rw [List.getElem?_map] at h1
      obtain ⟨e0, h2, h3⟩ := Option.map_eq_some_iff.1 h1
      exact ⟨e0, h2, (Prod.mk.inj h3).1, (Prod.mk.inj h3).2⟩
    obtain ⟨e0, h2, h3, h4⟩ := hje
    have hjs : es[j]? = some e0 := by simpa using h2
    refine ⟨setBlock w r (.map (es.modify j (fun e => { e with key := kV k, val := v })) clock), fun n => ?_, ⟨_, _, heap_setBlock_at hb, ?_, ?_, ?_, ?_⟩, grownBy_setBlock hb, by simp [setBlock]⟩
    · simp [Instr.mapUpdate, run_underlying ht, MapKept.run_getObj_map (hbn n), check_key, hf, hjs, h3, stays_key, MapKept.run_setObj_map _ (hbn n), Result.andThen]
      rfl
    · rw [Array.toList_modify, modify_eq_set _ _ _ _ h2, List.map_set, hl, List.map_set]
    · intro x hx
      rw [Array.toList_modify, modify_eq_set _ _ _ _ h2] at hx
      rcases List.mem_or_eq_of_mem_set hx with hx | rfl
      · exact hc x hx
      · exact hc e0 (List.mem_of_getElem? h2)
    · rw [Array.toList_modify, modify_eq_set _ _ _ _ h2, List.map_set]
      rw [set_self _ _ _ (by rw [List.getElem?_map, h2]; rfl)]
      exact hn
    · show ((l.set j (k, v)).map (·.1)).Nodup
      rw [set_keys hj]
      exact hk
theorem map_eraseIdx' {α β : Type} (f : α → β) : ∀ (l : List α) (j : Nat), (l.eraseIdx j).map f = (l.map f).eraseIdx j
  | [], _ => by simp
  | x :: l, 0 => rfl
  | x :: l, j + 1 => by simp [map_eraseIdx' f l j]
/-- delete(m, k) -/
theorem MapAt.delete (h : MapAt w r l) (ht : Tryz.prog.underlying mt = some (.map 103 e)) (k : K) (t2 ty : TypeId) :
    ∃ W1, (∀ n, (Builtin.delete_ #[mt, t2] ty #[.map (some r), kV k]).run Tryz.prog (w.drewN n) = .ok (.tuple #[]) (W1.drewN n)) ∧ MapAt W1 r (dropK k l) ∧ w.grownBy W1 (some r) ∧ W1.heap.size = w.heap.size := by
  obtain ⟨es, clock, hb, hl, hc, hn, hk⟩ := h
  have hf : ∀ n, (Instr.findKey 103 (kV k) es.toList).run Tryz.prog (w.drewN n) = .ok (findK k l 0) (w.drewN n) := fun n => find_key k (w.drewN n) es.toList l hl
  have hbn : ∀ n, (w.drewN n).heap[r]? = some (.map es clock) := fun n => hb
  unfold dropK
  cases hfk : findK k l 0 with
  | none =>
    rw [hfk] at hf
    refine ⟨setBlock w r (.map es clock), fun n => ?_, ⟨_, _, heap_setBlock_at hb, hl, hc, hn, hk⟩, grownBy_setBlock hb, by simp [setBlock]⟩
    simp [Builtin.delete_, run_underlying ht, MapKept.run_getObj_map (hbn n), check_key, hf, MapKept.run_setObj_map _ (hbn n), Result.andThen]
    rfl
  | some x =>
    obtain ⟨j, u⟩ := x
    rw [hfk] at hf
    have hsub : (es.eraseIdxIfInBounds j).toList = es.toList.eraseIdx j := by
      unfold Array.eraseIdxIfInBounds
      split
      · simp
      · rw [List.eraseIdx_of_length_le (by rw [Array.length_toList]; omega)]
    refine ⟨setBlock w r (.map (es.eraseIdxIfInBounds j) clock), fun n => ?_, ⟨_, _, heap_setBlock_at hb, ?_, ?_, ?_, ?_⟩, grownBy_setBlock hb, by simp [setBlock]⟩
    · simp [Builtin.delete_, run_underlying ht, MapKept.run_getObj_map (hbn n), check_key, hf, MapKept.run_setObj_map _ (hbn n), Result.andThen]
      rfl
    · rw [hsub, map_eraseIdx', hl, map_eraseIdx']
    · intro x hx
      rw [hsub] at hx
      exact hc x ((List.eraseIdx_sublist _ _).subset hx)
    · rw [hsub, map_eraseIdx']
      exact hn.sublist (List.eraseIdx_sublist _ _)
    · show ((l.eraseIdx j).map (·.1)).Nodup
      rw [map_eraseIdx']
      exact hk.sublist (List.eraseIdx_sublist _ _)
end
end Go.Proofs.YtkkfmkhbdoeglabGreatDoor
