/- Tables in plain data: entries sorted by their keys; what a change makes of them. No program. No condition. -/
import Derived.Test.YtkkfmkhbdoeglaaGreatDoorDeltaA
import Derived.Test.YtkkfmkhbdoeglaaGreatDoorRange
namespace Go.Proofs.YtkkfmkhbdoeglaaGreatDoor

/-- an entry: a key of a table, and its value -/
abbrev E := K × List UInt8
/-- the keys' order -/
def ltK (a b : K) : Bool := decide (a.1 < b.1) || (decide (a.1 = b.1) && decide (a.2 < b.2))
theorem ltK_iff (a b : K) : ltK a b = true ↔ a.1 < b.1 ∨ (a.1 = b.1 ∧ a.2 < b.2) := by simp [ltK]
theorem ltK_irrefl (a : K) : ltK a a = false := by
  cases h : ltK a a with
  | false => rfl
  | true =>
    rw [ltK_iff] at h
    rcases h with h | ⟨-, h⟩
    · omega
    · exact absurd h (List.lt_irrefl _)
theorem ltK_trans {a b c : K} (h : ltK a b = true) (k : ltK b c = true) : ltK a c = true := by
  rw [ltK_iff] at *
  rcases h with h | ⟨h1, h2⟩
  · rcases k with k | ⟨k1, k2⟩
    · exact .inl (by omega)
    · exact .inl (by omega)
  · rcases k with k | ⟨k1, k2⟩
    · exact .inl (by omega)
    · exact .inr ⟨by omega, List.lt_trans h2 k2⟩
theorem ltK_asymm {a b : K} (h : ltK a b = true) : ltK b a = false := by
  cases k : ltK b a with
  | false => rfl
  | true => rw [← ltK_irrefl a, ltK_trans h k]
theorem ltK_ne {a b : K} (h : ltK a b = true) : a ≠ b := fun e => by rw [e, ltK_irrefl] at h; cases h
theorem ltK_tri (a b : K) : ltK a b = true ∨ a = b ∨ ltK b a = true := by
  rw [ltK_iff, ltK_iff]
  rcases Int.lt_trichotomy a.1 b.1 with h | h | h
  · exact .inl (.inl h)
  · by_cases h1 : a.2 < b.2
    · exact .inl (.inr ⟨h, h1⟩)
    · by_cases h2 : b.2 < a.2
      · exact .inr (.inr (.inr ⟨h.symm, h2⟩))
      · exact .inr (.inl (Prod.ext h (List.le_antisymm (List.not_lt.1 h2) (List.not_lt.1 h1))))
  · exact .inr (.inr (.inl h))
/-- strictly sorted by keys -/
def SortedE (S : List E) : Prop := S.Pairwise fun x y => ltK x.1 y.1 = true
theorem SortedE.nil : SortedE [] := List.Pairwise.nil
theorem SortedE.keys {S : List E} (h : SortedE S) : (S.map (·.1)).Nodup := List.pairwise_map.2 (h.imp fun h => ltK_ne h)
theorem SortedE.nodup {S : List E} (h : SortedE S) : S.Nodup := List.Pairwise.imp (R := fun x y : E => ltK x.1 y.1 = true) (fun {a b} h (e : a = b) => ltK_ne h (by rw [e])) h
/-- sorted lists with the same entries are one -/
theorem SortedE.ext : ∀ {S T : List E}, SortedE S → SortedE T → (∀ x, x ∈ S ↔ x ∈ T) → S = T
  | [], [], _, _, _ => rfl
  | [], y :: T, _, _, h => by have := (h y).2 (by simp); cases this
  | x :: S, [], _, _, h => by have := (h x).1 (by simp); cases this
  | x :: S, y :: T, hS, hT, h => by
    obtain ⟨hS1, hS2⟩ := List.pairwise_cons.1 hS
    obtain ⟨hT1, hT2⟩ := List.pairwise_cons.1 hT
    have hxy : x = y := by
      rcases List.mem_cons.1 ((h x).1 (by simp)) with e | hx
      · exact e
      · rcases List.mem_cons.1 ((h y).2 (by simp)) with e | hy
        · exact e.symm
        · have := ltK_asymm (hT1 x hx)
          rw [hS1 y hy] at this
          cases this
    subst hxy
    congr 1
    refine SortedE.ext hS2 hT2 fun z => ⟨fun hz => ?_, fun hz => ?_⟩
    · rcases List.mem_cons.1 ((h z).1 (List.mem_cons_of_mem _ hz)) with e | h'
      · exact absurd e.symm (fun e => ltK_ne (hS1 z hz) (by rw [e]))
      · exact h'
    · rcases List.mem_cons.1 ((h z).2 (List.mem_cons_of_mem _ hz)) with e | h'
      · exact absurd e.symm (fun e => ltK_ne (hT1 z hz) (by rw [e]))
      · exact h'
/-- an entry laid in place of that of the same key -/
def putS (k : K) (v : List UInt8) (S : List E) : List E := S.filter (fun x => ltK x.1 k) ++ (k, v) :: S.filter (fun x => ltK k x.1)
def dropS (k : K) (S : List E) : List E := S.filter fun x => !(x.1 == k)
def getS (k : K) (S : List E) : Option (List UInt8) := (S.find? fun x => k == x.1).map (·.2)
theorem sorted_put (k : K) (v : List UInt8) {S : List E} (h : SortedE S) : SortedE (putS k v S) := by
  unfold putS SortedE
  rw [List.pairwise_append]
  refine ⟨h.filter _, List.pairwise_cons.2 ⟨fun y hy => (List.mem_filter.1 hy).2, h.filter _⟩, fun x hx y hy => ?_⟩
  have h1 := (List.mem_filter.1 hx).2
  rcases List.mem_cons.1 hy with rfl | hy
  · exact h1
  · exact ltK_trans h1 (List.mem_filter.1 hy).2
theorem sorted_drop (k : K) {S : List E} (h : SortedE S) : SortedE (dropS k S) := h.filter _
theorem mem_put (k : K) (v : List UInt8) (S : List E) (x : E) : x ∈ putS k v S ↔ x = (k, v) ∨ (x ∈ S ∧ x.1 ≠ k) := by
  unfold putS
  simp only [List.mem_append, List.mem_filter, List.mem_cons]
  constructor
  · rintro (⟨h1, h2⟩ | h | ⟨h1, h2⟩)
    · exact .inr ⟨h1, ltK_ne h2⟩
    · exact .inl h
    · exact .inr ⟨h1, (ltK_ne h2).symm⟩
  · rintro (h | ⟨h1, h2⟩)
    · exact .inr (.inl h)
    · rcases ltK_tri x.1 k with h | h | h
      · exact .inl ⟨h1, h⟩
      · exact absurd h h2
      · exact .inr (.inr ⟨h1, h⟩)
theorem mem_drop (k : K) (S : List E) (x : E) : x ∈ dropS k S ↔ x ∈ S ∧ x.1 ≠ k := by
  unfold dropS
  rw [List.mem_filter]
  simp
theorem find_mem {l : List E} {k : K} {x : E} (h : l.find? (fun x => k == x.1) = some x) : x ∈ l ∧ x.1 = k := by
  refine ⟨List.mem_of_find?_eq_some h, ?_⟩
  have := List.find?_some h
  exact (beq_iff_eq.1 this).symm
theorem get_iff {S : List E} (h : (S.map (·.1)).Nodup) (k : K) (v : List UInt8) : getS k S = some v ↔ (k, v) ∈ S := by
  unfold getS
  constructor
  · intro h'
    obtain ⟨x, hx, rfl⟩ := Option.map_eq_some_iff.1 h'
    obtain ⟨h1, h2⟩ := find_mem hx
    rw [← h2]
    exact h1
  · intro hm
    induction S with
    | nil => cases hm
    | cons y S ih =>
      rw [List.map_cons, List.nodup_cons] at h
      rw [List.find?_cons]
      rcases List.mem_cons.1 hm with rfl | hm
      · simp
      · have : (k == y.1) = false := by
          rw [beq_eq_false_iff_ne]
          exact fun e => h.1 (e ▸ List.mem_map.2 ⟨_, hm, rfl⟩)
        rw [this]
        exact ih h.2 hm
theorem get_none {S : List E} (k : K) : getS k S = none ↔ ∀ x ∈ S, x.1 ≠ k := by
  unfold getS
  rw [Option.map_eq_none_iff, List.find?_eq_none]
  constructor
  · intro h x hx e
    exact h x hx (by rw [beq_iff_eq, e])
  · intro h x hx e
    exact h x hx (beq_iff_eq.1 e).symm
/-- a change -/
def opS (S : List E) (o : OpB) : List E := if o.kind = 1 then putS (o.table, o.key) o.val S else dropS (o.table, o.key) S
def foldS (S : List E) (os : List OpB) : List E := os.foldl opS S
theorem sorted_op {S : List E} (o : OpB) (h : SortedE S) : SortedE (opS S o) := by
  unfold opS
  split
  · exact sorted_put _ _ h
  · exact sorted_drop _ h
theorem sorted_fold : ∀ {S : List E} (os : List OpB), SortedE S → SortedE (foldS S os)
  | _, [], h => h
  | _, o :: os, h => sorted_fold os (sorted_op o h)
theorem foldS_append (S : List E) (os us : List OpB) : foldS S (os ++ us) = foldS (foldS S os) us := List.foldl_append
theorem foldS_take (S : List E) (os : List OpB) (k : Nat) (h : k < os.length) : foldS S (os.take (k + 1)) = opS (foldS S (os.take k)) os[k] := by
  rw [List.take_succ_eq_append_getElem h, foldS_append]
  rfl
/-- how many entries a table has; how many bytes -/
def countS (t : Int) (S : List E) : Nat := S.countP fun x => decide (x.1.1 = t)
def sizeS (S : List E) : Nat := (S.map fun x => 1 + x.1.2.length + x.2.length).sum
end Go.Proofs.YtkkfmkhbdoeglaaGreatDoor

/- Tables in memory: a map's block that reads as sorted entries; the laws of its operations. No condition. -/
namespace Go.Proofs.YtkkfmkhbdoeglaaGreatDoor
open Go.RowKit Go.ChangeMaps

/-- a value as it lies in a table's map -/
def strV (s : List UInt8) : Value := .agg #[.string ⟨s.toArray⟩]
def zS (x : E) : K × Value := (x.1, strV x.2)
theorem strV_inj {a b : List UInt8} (h : strV a = strV b) : a = b := by
  unfold strV at h
  simp only [Value.agg.injEq, Array.mk.injEq, List.cons.injEq, Value.string.injEq, ByteArray.mk.injEq, and_true] at h
  exact h
theorem zS_inj {x y : E} (h : zS x = zS y) : x = y := by
  unfold zS at h
  simp only [Prod.mk.injEq] at h
  exact Prod.ext h.1 (strV_inj h.2)
/-- block r is a map that reads as these sorted entries -/
def TabAt (w : World) (r : Nat) (S : List E) : Prop := SortedE S ∧ ∃ L, MapAt w r L ∧ L.Perm (S.map zS)
theorem TabAt.sorted {w : World} {r : Nat} {S : List E} (h : TabAt w r S) : SortedE S := h.1
theorem TabAt.lt {w : World} {r : Nat} {S : List E} (h : TabAt w r S) : r < w.heap.size := h.2.elim fun _ h => h.1.lt
theorem TabAt.old {w w' : World} {r : Nat} {S : List E} (h : TabAt w r S) (hb : w'.heap[r]? = w.heap[r]?) : TabAt w' r S := by
  obtain ⟨hs, L, hm, hp⟩ := h
  exact ⟨hs, L, hm.old hb, hp⟩
theorem TabAt.new (w : World) : TabAt (w.alloc (.map #[] 0)) w.heap.size [] := ⟨SortedE.nil, [], MapAt.new w, List.Perm.refl _⟩
theorem keys_zS (S : List E) : (S.map zS).map (·.1) = S.map (·.1) := by rw [List.map_map]; rfl
theorem atK_iff {k : K} {v : Value} : ∀ {L : List (K × Value)}, (L.map (·.1)).Nodup → (atK k L = some v ↔ (k, v) ∈ L)
  | [], _ => by simp [atK]
  | y :: L, h => by
    rw [List.map_cons, List.nodup_cons] at h
    unfold atK
    rw [List.find?_cons]
    cases hk : (k == y.1) with
    | true =>
      rw [beq_iff_eq] at hk
      subst hk
      simp only [Option.map_some, Option.some.injEq, List.mem_cons]
      constructor
      · rintro rfl; exact .inl rfl
      · rintro (e | hm)
        · rw [← e]
        · exact absurd (List.mem_map.2 ⟨_, hm, rfl⟩) h.1
    | false =>
      rw [beq_eq_false_iff_ne] at hk
      have := @atK_iff k v L h.2
      unfold atK at this
      simp only [this, List.mem_cons]
      constructor
      · exact .inr
      · rintro (e | hm)
        · exact absurd (by rw [← e]) hk
        · exact hm
theorem atK_tab {S : List E} {L : List (K × Value)} (hs : SortedE S) (hn : (L.map (·.1)).Nodup) (hp : L.Perm (S.map zS)) (k : K) : atK k L = (getS k S).map strV := by
  cases hg : getS k S with
  | some v =>
    rw [get_iff hs.keys] at hg
    exact (atK_iff hn).2 (hp.mem_iff.2 (List.mem_map.2 ⟨_, hg, rfl⟩))
  | none =>
    rw [get_none] at hg
    cases ha : atK k L with
    | none => rfl
    | some v =>
      rw [atK_iff hn, hp.mem_iff] at ha
      obtain ⟨x, hx, e⟩ := List.mem_map.1 ha
      exact absurd (congrArg Prod.fst e) (hg x hx)
theorem nodup_inj {l : List K} (h : l.Nodup) {i j : Nat} (hi : i < l.length) (hj : j < l.length) (e : l[i] = l[j]) : i = j :=
  (List.getElem?_inj hi h).1 (by rw [List.getElem?_eq_getElem hi, List.getElem?_eq_getElem hj, e])
theorem putK_mem (k : K) (v : Value) {L : List (K × Value)} (hn : (L.map (·.1)).Nodup) (x : K × Value) : x ∈ putK k v L ↔ x = (k, v) ∨ (x ∈ L ∧ x.1 ≠ k) := by
  unfold putK
  cases hf : findK k L 0 with
  | none =>
    have ha := findK_absent k L 0 hf
    simp only [List.mem_append, List.mem_singleton]
    constructor
    · rintro (h | h)
      · exact .inr ⟨h, ha x h⟩
      · exact .inl h
    · rintro (h | h)
      · exact .inr h
      · exact .inl h.1
  | some y =>
    obtain ⟨j, u⟩ := y
    obtain ⟨-, hj⟩ := findK_get k L 0 j u hf
    rw [Nat.sub_zero] at hj
    obtain ⟨hjl, hje⟩ := List.getElem?_eq_some_iff.1 hj
    simp only
    constructor
    · intro h
      obtain ⟨i, hi, e⟩ := List.getElem_of_mem h
      rw [List.getElem_set] at e
      rw [List.length_set] at hi
      split at e
      · exact .inl e.symm
      · rename_i hne
        refine .inr ⟨e ▸ List.getElem_mem hi, fun hk => hne ?_⟩
        have h1 : (L.map (·.1))[j]'(by simpa using hjl) = k := by simp [hje]
        have h2 : (L.map (·.1))[i]'(by simpa using hi) = k := by simp [e, hk]
        exact nodup_inj hn _ _ (h1.trans h2.symm)
    · rintro (h | ⟨h1, h2⟩)
      · rw [h]
        exact List.mem_of_getElem? (i := j) (by rw [List.getElem?_set_self hjl])
      · obtain ⟨i, hi, rfl⟩ := List.getElem_of_mem h1
        refine List.mem_of_getElem? (i := i) ?_
        rw [List.getElem?_set_ne (fun e => h2 (by subst e; rw [hje])), List.getElem?_eq_getElem hi]
theorem dropK_mem (k : K) {L : List (K × Value)} (hn : (L.map (·.1)).Nodup) (x : K × Value) : x ∈ dropK k L ↔ x ∈ L ∧ x.1 ≠ k := by
  unfold dropK
  cases hf : findK k L 0 with
  | none =>
    have ha := findK_absent k L 0 hf
    exact ⟨fun h => ⟨h, ha x h⟩, fun h => h.1⟩
  | some y =>
    obtain ⟨j, u⟩ := y
    obtain ⟨-, hj⟩ := findK_get k L 0 j u hf
    rw [Nat.sub_zero] at hj
    obtain ⟨hjl, hje⟩ := List.getElem?_eq_some_iff.1 hj
    simp only
    rw [List.mem_eraseIdx_iff_getElem]
    constructor
    · rintro ⟨i, hi, hne, e⟩
      refine ⟨e ▸ List.getElem_mem hi, fun hk => hne ?_⟩
      have h1 : (L.map (·.1))[j]'(by simpa using hjl) = k := by simp [hje]
      have h2 : (L.map (·.1))[i]'(by simpa using hi) = k := by simp [e, hk]
      exact (nodup_inj hn _ _ (h1.trans h2.symm)).symm
    · rintro ⟨h1, h2⟩
      obtain ⟨i, hi, rfl⟩ := List.getElem_of_mem h1
      exact ⟨i, hi, fun e => h2 (by subst e; rw [hje]), rfl⟩
theorem nodup_of_keys {L : List (K × Value)} (h : (L.map (·.1)).Nodup) : L.Nodup := (List.pairwise_map.1 h).imp fun h e => h (by rw [e])
section
open Classical in
theorem perm_of_mem {L M : List (K × Value)} (hl : (L.map (·.1)).Nodup) (hm : (M.map (·.1)).Nodup) (h : ∀ x, x ∈ L ↔ x ∈ M) : L.Perm M :=
  (List.perm_ext_iff_of_nodup (nodup_of_keys hl) (nodup_of_keys hm)).2 h
end
theorem MapAt.keys {w : World} {r : Nat} {L : List (K × Value)} (h : MapAt w r L) : (L.map (·.1)).Nodup := by
  obtain ⟨_, _, _, _, _, _, hk⟩ := h
  exact hk
section
variable {w : World} {r : Nat} {S : List E} {mt e : TypeId}
theorem TabAt.put (h : TabAt w r S) (ht : Tryz.prog.underlying mt = some (.map 94 e)) (k : K) (v : List UInt8) :
    ∃ W1, (∀ n, (Instr.mapUpdate mt (.map (some r)) (kV k) (strV v)).run Tryz.prog (w.drewN n) = .ok () (W1.drewN n)) ∧ TabAt W1 r (putS k v S) ∧ w.grownBy W1 (some r) ∧ W1.heap.size = w.heap.size := by
  obtain ⟨hs, L, hm, hp⟩ := h
  obtain ⟨W1, h1, h2, h3, h4⟩ := hm.update ht k (strV v)
  refine ⟨W1, h1, ⟨sorted_put k v hs, _, h2, perm_of_mem h2.keys (by rw [keys_zS]; exact (sorted_put k v hs).keys) fun x => ?_⟩, h3, h4⟩
  rw [putK_mem k _ hm.keys, hp.mem_iff, List.mem_map, List.mem_map]
  constructor
  · rintro (rfl | ⟨⟨y, hy, rfl⟩, hne⟩)
    · exact ⟨(k, v), (mem_put k v S _).2 (.inl rfl), rfl⟩
    · exact ⟨y, (mem_put k v S _).2 (.inr ⟨hy, hne⟩), rfl⟩
  · rintro ⟨y, hy, rfl⟩
    rcases (mem_put k v S _).1 hy with rfl | ⟨h1, h2⟩
    · exact .inl rfl
    · exact .inr ⟨⟨y, h1, rfl⟩, h2⟩
theorem TabAt.drop (h : TabAt w r S) (ht : Tryz.prog.underlying mt = some (.map 94 e)) (k : K) (t2 ty : TypeId) :
    ∃ W1, (∀ n, (Builtin.delete_ #[mt, t2] ty #[.map (some r), kV k]).run Tryz.prog (w.drewN n) = .ok (.tuple #[]) (W1.drewN n)) ∧ TabAt W1 r (dropS k S) ∧ w.grownBy W1 (some r) ∧ W1.heap.size = w.heap.size := by
  obtain ⟨hs, L, hm, hp⟩ := h
  obtain ⟨W1, h1, h2, h3, h4⟩ := hm.delete ht k t2 ty
  refine ⟨W1, h1, ⟨sorted_drop k hs, _, h2, perm_of_mem h2.keys (by rw [keys_zS]; exact (sorted_drop k hs).keys) fun x => ?_⟩, h3, h4⟩
  rw [dropK_mem k hm.keys, hp.mem_iff, List.mem_map, List.mem_map]
  constructor
  · rintro ⟨⟨y, hy, rfl⟩, hne⟩
    exact ⟨y, (mem_drop k S _).2 ⟨hy, hne⟩, rfl⟩
  · rintro ⟨y, hy, rfl⟩
    obtain ⟨h1, h2⟩ := (mem_drop k S _).1 hy
    exact ⟨⟨y, h1, rfl⟩, h2⟩
theorem TabAt.lookup_ok (h : TabAt w r S) (ht : Tryz.prog.underlying mt = some (.map 94 e)) (hz : (zeroValue e).run Tryz.prog w = .ok (strV []) w) (k : K) :
    (Instr.lookup mt (.map (some r)) (kV k) true).run Tryz.prog w = .ok (.tuple #[strV ((getS k S).getD []), .bool (getS k S).isSome]) w := by
  obtain ⟨hs, L, hm, hp⟩ := h
  rw [hm.lookup_ok ht hz k, atK_tab hs hm.keys hp]
  cases getS k S <;> rfl
theorem TabAt.lookup (h : TabAt w r S) (ht : Tryz.prog.underlying mt = some (.map 94 e)) (hz : (zeroValue e).run Tryz.prog w = .ok (strV []) w) (k : K) :
    (Instr.lookup mt (.map (some r)) (kV k) false).run Tryz.prog w = .ok (strV ((getS k S).getD [])) w := by
  obtain ⟨hs, L, hm, hp⟩ := h
  rw [hm.lookup ht hz k, atK_tab hs hm.keys hp]
  cases getS k S <;> rfl
end
theorem nodup_zS {l : List E} (h : ((l.map zS).map (·.1)).Nodup) : l.Nodup := by
  rw [keys_zS] at h
  exact (List.pairwise_map.1 h).imp (fun h e => h (by rw [e]))
theorem mem_zS {x : E} {l : List E} (h : zS x ∈ l.map zS) : x ∈ l := by
  obtain ⟨y, hy, e⟩ := List.mem_map.1 h
  rw [← zS_inj e]
  exact hy
theorem perm_zS {l S : List E} (hl : l.Nodup) (hS : S.Nodup) (h : (l.map zS).Perm (S.map zS)) : l.Perm S :=
  (List.perm_ext_iff_of_nodup hl hS).2 fun x => ⟨fun hx => mem_zS (h.mem_iff.1 (List.mem_map.2 ⟨x, hx, rfl⟩)), fun hx => mem_zS (h.mem_iff.2 (List.mem_map.2 ⟨x, hx, rfl⟩))⟩
theorem countS_snoc (t : Int) (l : List E) (x : E) : countS t (l ++ [x]) = countS t l + if x.1.1 = t then 1 else 0 := by
  unfold countS
  rw [List.countP_append, List.countP_cons, List.countP_nil]
  simp
theorem countS_perm (t : Int) {l m : List E} (h : l.Perm m) : countS t l = countS t m := h.countP_eq _
theorem length_sub {l m : List E} (hn : l.Nodup) (h : ∀ x ∈ l, x ∈ m) : l.length ≤ m.length := by
  classical
  induction l generalizing m with
  | nil => exact Nat.zero_le _
  | cons x l ih =>
    rw [List.nodup_cons] at hn
    have hp := (List.perm_cons_erase (h x (by simp))).length_eq
    have := ih (m := m.erase x) hn.2 (fun y hy => (List.mem_erase_of_ne (fun e => hn.1 (by rw [← e]; exact hy))).2 (h y (List.mem_cons_of_mem _ hy)))
    simp only [List.length_cons] at hp ⊢
    omega
end Go.Proofs.YtkkfmkhbdoeglaaGreatDoor
