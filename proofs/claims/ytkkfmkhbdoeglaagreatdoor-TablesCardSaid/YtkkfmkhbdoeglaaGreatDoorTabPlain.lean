/- Tables in plain data: entries sorted by their keys; what a change makes of them. No program. No condition. -/
import Derived.Test.YtkkfmkhbdoeglaaGreatDoorDeltaA
namespace Go.Proofs.YtkkfmkhbdoeglaaGreatDoor

/-- an entry: a key of a table, and its value -/
abbrev E := K × List UInt8
/-- the keys' order -/
def ltK (a b : K) : Bool := decide (a.1 < b.1) || (decide (a.1 = b.1) && decide (a.2 < b.2))
theorem ltK_iff (a b : K) : ltK a b = true ↔ a.1 < b.1 ∨ (a.1 = b.1 ∧ a.2 < b.2) := by simp [ltK]
theorem ltK_irrefl (a : K) : ltK a a = false := by
  cases h : ltK a a with
  | false => rfl
  | true =>
    rw [ltK_iff] at h
    rcases h with h | ⟨-, h⟩
    · omega
    · exact absurd h (List.lt_irrefl _)
theorem ltK_trans {a b c : K} (h : ltK a b = true) (k : ltK b c = true) : ltK a c = true := by
  rw [ltK_iff] at *
  rcases h with h | ⟨h1, h2⟩
  · rcases k with k | ⟨k1, k2⟩
    · exact .inl (by omega)
    · exact .inl (by omega)
  · rcases k with k | ⟨k1, k2⟩
    · exact .inl (by omega)
    · exact .inr ⟨by omega, List.lt_trans h2 k2⟩
theorem ltK_asymm {a b : K} (h : ltK a b = true) : ltK b a = false := by
  cases k : ltK b a with
  | false => rfl
  | true => rw [← ltK_irrefl a, ltK_trans h k]
theorem ltK_ne {a b : K} (h : ltK a b = true) : a ≠ b := fun e => by rw [e, ltK_irrefl] at h; cases h
theorem ltK_tri (a b : K) : ltK a b = true ∨ a = b ∨ ltK b a = true := by
  rw [ltK_iff, ltK_iff]
  rcases Int.lt_trichotomy a.1 b.1 with h | h | h
  · exact .inl (.inl h)
  · by_cases h1 : a.2 < b.2
    · exact .inl (.inr ⟨h, h1⟩)
    · by_cases h2 : b.2 < a.2
      · exact .inr (.inr (.inr ⟨h.symm, h2⟩))
      · exact .inr (.inl (Prod.ext h (List.le_antisymm (List.not_lt.1 h2) (List.not_lt.1 h1))))
  · exact .inr (.inr (.inl h))
/-- strictly sorted by keys -/
def SortedE (S : List E) : Prop := S.Pairwise fun x y => ltK x.1 y.1 = true
theorem SortedE.nil : SortedE [] := List.Pairwise.nil
theorem SortedE.keys {S : List E} (h : SortedE S) : (S.map (·.1)).Nodup := List.pairwise_map.2 (h.imp fun h => ltK_ne h)
theorem SortedE.nodup {S : List E} (h : SortedE S) : S.Nodup := List.Pairwise.imp (R := fun x y : E => ltK x.1 y.1 = true) (fun {a b} h (e : a = b) => ltK_ne h (by rw [e])) h
/-- sorted lists with the same entries are one -/
theorem SortedE.ext : ∀ {S T : List E}, SortedE S → SortedE T → (∀ x, x ∈ S ↔ x ∈ T) → S = T
  | [], [], _, _, _ => rfl
  | [], y :: T, _, _, h => by have := (h y).2 (by simp); cases this
  | x :: S, [], _, _, h => by have := (h x).1 (by simp); cases this
  | x :: S, y :: T, hS, hT, h => by
    obtain ⟨hS1, hS2⟩ := List.pairwise_cons.1 hS
    obtain ⟨hT1, hT2⟩ := List.pairwise_cons.1 hT
    have hxy : x = y := by
      rcases List.mem_cons.1 ((h x).1 (by simp)) with e | hx
      · exact e
      · rcases List.mem_cons.1 ((h y).2 (by simp)) with e | hy
        · exact e.symm
        · have := ltK_asymm (hT1 x hx)
          rw [hS1 y hy] at this
          cases this
    subst hxy
    congr 1
    refine SortedE.ext hS2 hT2 fun z => ⟨fun hz => ?_, fun hz => ?_⟩
    · rcases List.mem_cons.1 ((h z).1 (List.mem_cons_of_mem _ hz)) with e | h'
      · exact absurd e.symm (fun e => ltK_ne (hS1 z hz) (by rw [e]))
      · exact h'
    · rcases List.mem_cons.1 ((h z).2 (List.mem_cons_of_mem _ hz)) with e | h'
      · exact absurd e.symm (fun e => ltK_ne (hT1 z hz) (by rw [e]))
      · exact h'
/-- an entry laid in place of that of the same key -/
def putS (k : K) (v : List UInt8) (S : List E) : List E := S.filter (fun x => ltK x.1 k) ++ (k, v) :: S.filter (fun x => ltK k x.1)
def dropS (k : K) (S : List E) : List E := S.filter fun x => !(x.1 == k)
def getS (k : K) (S : List E) : Option (List UInt8) := (S.find? fun x => k == x.1).map (·.2)
theorem sorted_put (k : K) (v : List UInt8) {S : List E} (h : SortedE S) : SortedE (putS k v S) := by
  unfold putS SortedE
  rw [List.pairwise_append]
  refine ⟨h.filter _, List.pairwise_cons.2 ⟨fun y hy => (List.mem_filter.1 hy).2, h.filter _⟩, fun x hx y hy => ?_⟩
  have h1 := (List.mem_filter.1 hx).2
  rcases List.mem_cons.1 hy with rfl | hy
  · exact h1
  · exact ltK_trans h1 (List.mem_filter.1 hy).2
theorem sorted_drop (k : K) {S : List E} (h : SortedE S) : SortedE (dropS k S) := h.filter _
theorem mem_put (k : K) (v : List UInt8) (S : List E) (x : E) : x ∈ putS k v S ↔ x = (k, v) ∨ (x ∈ S ∧ x.1 ≠ k) := by
  unfold putS
  simp only [List.mem_append, List.mem_filter, List.mem_cons]
  constructor
  · rintro (⟨h1, h2⟩ | h | ⟨h1, h2⟩)
    · exact .inr ⟨h1, ltK_ne h2⟩
    · exact .inl h
    · exact .inr ⟨h1, (ltK_ne h2).symm⟩
  · rintro (h | ⟨h1, h2⟩)
    · exact .inr (.inl h)
    · rcases ltK_tri x.1 k with h | h | h
      · exact .inl ⟨h1, h⟩
      · exact absurd h h2
      · exact .inr (.inr ⟨h1, h⟩)
theorem mem_drop (k : K) (S : List E) (x : E) : x ∈ dropS k S ↔ x ∈ S ∧ x.1 ≠ k := by
  unfold dropS
  rw [List.mem_filter]
  simp
theorem find_mem {l : List E} {k : K} {x : E} (h : l.find? (fun x => k == x.1) = some x) : x ∈ l ∧ x.1 = k := by
  refine ⟨List.mem_of_find?_eq_some h, ?_⟩
  have := List.find?_some h
  exact (beq_iff_eq.1 this).symm
theorem get_iff {S : List E} (h : (S.map (·.1)).Nodup) (k : K) (v : List UInt8) : getS k S = some v ↔ (k, v) ∈ S := by
  unfold getS
  constructor
  · intro h'
    obtain ⟨x, hx, rfl⟩ := Option.map_eq_some_iff.1 h'
    obtain ⟨h1, h2⟩ := find_mem hx
    rw [← h2]
    exact h1
  · intro hm
    induction S with
    | nil => cases hm
    | cons y S ih =>
      rw [List.map_cons, List.nodup_cons] at h
      rw [List.find?_cons]
      rcases List.mem_cons.1 hm with rfl | hm
      · simp
      · have : (k == y.1) = false := by
          rw [beq_eq_false_iff_ne]
          exact fun e => h.1 (e ▸ List.mem_map.2 ⟨_, hm, rfl⟩)
        rw [this]
        exact ih h.2 hm
theorem get_none {S : List E} (k : K) : getS k S = none ↔ ∀ x ∈ S, x.1 ≠ k := by
  unfold getS
  rw [Option.map_eq_none_iff, List.find?_eq_none]
  constructor
  · intro h x hx e
    exact h x hx (by rw [beq_iff_eq, e])
  · intro h x hx e
    exact h x hx (beq_iff_eq.1 e).symm
/-- a change -/
def opS (S : List E) (o : OpB) : List E := if o.kind = 1 then putS (o.table, o.key) o.val S else dropS (o.table, o.key) S
def foldS (S : List E) (os : List OpB) : List E := os.foldl opS S
theorem sorted_op {S : List E} (o : OpB) (h : SortedE S) : SortedE (opS S o) := by
  unfold opS
  split
  · exact sorted_put _ _ h
  · exact sorted_drop _ h
theorem sorted_fold : ∀ {S : List E} (os : List OpB), SortedE S → SortedE (foldS S os)
  | _, [], h => h
  | _, o :: os, h => sorted_fold os (sorted_op o h)
theorem foldS_append (S : List E) (os us : List OpB) : foldS S (os ++ us) = foldS (foldS S os) us := List.foldl_append
theorem foldS_take (S : List E) (os : List OpB) (k : Nat) (h : k < os.length) : foldS S (os.take (k + 1)) = opS (foldS S (os.take k)) os[k] := by
  rw [List.take_succ_eq_append_getElem h, foldS_append]
  rfl
/-- how many entries a table has; how many bytes -/
def countS (t : Int) (S : List E) : Nat := S.countP fun x => decide (x.1.1 = t)
def sizeS (S : List E) : Nat := (S.map fun x => 1 + x.1.2.length + x.2.length).sum
end Go.Proofs.YtkkfmkhbdoeglaaGreatDoor
