/- Changes whose keys have nothing in common come in either order, in plain data; how many entries, how many bytes changes leave. No program. No condition. -/
import Derived.Test.YtkkfmkhbdoeglaaGreatDoorTabPlain
namespace Go.Proofs.YtkkfmkhbdoeglaaGreatDoor

def keyO (o : OpB) : K := (o.table, o.key)
theorem mem_op (S : List E) (o : OpB) (x : E) : x ∈ opS S o ↔ (o.kind = 1 ∧ x = (keyO o, o.val)) ∨ (x ∈ S ∧ x.1 ≠ keyO o) := by
  unfold opS keyO
  split
  · rename_i h
    rw [mem_put]
    simp [h]
  · rename_i h
    rw [mem_drop]
    simp [h]
theorem op_comm {S : List E} (hs : SortedE S) (o p : OpB) (h : keyO o ≠ keyO p) : opS (opS S o) p = opS (opS S p) o := by
  refine SortedE.ext (sorted_op _ (sorted_op _ hs)) (sorted_op _ (sorted_op _ hs)) fun x => ?_
  rw [mem_op, mem_op, mem_op, mem_op]
  constructor
  · rintro (⟨h1, rfl⟩ | ⟨⟨h1, rfl⟩ | ⟨h1, h2⟩, h3⟩)
    · exact .inr ⟨.inl ⟨h1, rfl⟩, fun e => h e.symm⟩
    · exact .inl ⟨h1, rfl⟩
    · exact .inr ⟨.inr ⟨h1, h3⟩, h2⟩
  · rintro (⟨h1, rfl⟩ | ⟨⟨h1, rfl⟩ | ⟨h1, h2⟩, h3⟩)
    · exact .inr ⟨.inl ⟨h1, rfl⟩, h⟩
    · exact .inl ⟨h1, rfl⟩
    · exact .inr ⟨.inr ⟨h1, h3⟩, h2⟩
theorem fold_op : ∀ (us : List OpB) {S : List E} (_ : SortedE S) (o : OpB) (_ : ∀ u ∈ us, keyO o ≠ keyO u), foldS (opS S o) us = opS (foldS S us) o
  | [], _, _, _, _ => rfl
  | u :: us, S, hs, o, h => by
    show foldS (opS (opS S o) u) us = opS (foldS (opS S u) us) o
    rw [op_comm hs o u (h u (by simp))]
    exact fold_op us (sorted_op _ hs) o fun v hv => h v (List.mem_cons_of_mem _ hv)
theorem fold_comm : ∀ (os us : List OpB) {S : List E} (_ : SortedE S) (_ : ∀ o ∈ os, ∀ u ∈ us, keyO o ≠ keyO u), foldS (foldS S os) us = foldS (foldS S us) os
  | [], _, _, _, _ => rfl
  | o :: os, us, S, hs, h => by
    show foldS (foldS (opS S o) os) us = foldS (opS (foldS S us) o) os
    rw [fold_comm os us (sorted_op _ hs) fun v hv => h v (List.mem_cons_of_mem _ hv), fold_op us hs o (h o (by simp))]
theorem two_filters (p q : E → Bool) (h : ∀ x, p x = true → q x = false) : ∀ S : List E, (S.filter p).length + (S.filter q).length ≤ S.length
  | [] => Nat.le_refl _
  | x :: S => by
    have ih := two_filters p q h S
    cases hp : p x with
    | true =>
      rw [List.filter_cons_of_pos hp, List.filter_cons_of_neg (by rw [h x hp]; decide)]
      simp only [List.length_cons]
      omega
    | false =>
      rw [List.filter_cons_of_neg (by rw [hp]; decide)]
      have := List.length_filter_le q [x]
      cases hq : q x with
      | true => rw [List.filter_cons_of_pos hq]; simp only [List.length_cons]; omega
      | false => rw [List.filter_cons_of_neg (by rw [hq]; decide)]; simp only [List.length_cons]; omega
theorem length_op (S : List E) (o : OpB) : (opS S o).length ≤ S.length + 1 := by
  unfold opS
  split
  · unfold putS
    rw [List.length_append, List.length_cons]
    exact Nat.succ_le_succ (two_filters _ _ (fun x h => ltK_asymm h) S)
  · unfold dropS
    exact Nat.le_succ_of_le (List.length_filter_le _ S)
theorem length_fold : ∀ (os : List OpB) {S : List E} (_ : SortedE S), (foldS S os).length ≤ S.length + os.length
  | [], _, _ => Nat.le_refl _
  | o :: os, S, hs => by
    have h1 := length_op S o
    have h2 := length_fold os (sorted_op o hs)
    show (foldS (opS S o) os).length ≤ _
    simp only [List.length_cons]
    omega
theorem sizeS_le (b : Nat) : ∀ (S : List E), (∀ x ∈ S, x.1.2.length ≤ b ∧ x.2.length ≤ b) → sizeS S ≤ S.length * (1 + b + b)
  | [], _ => by simp [sizeS]
  | x :: S, h => by
    have ih := sizeS_le b S (fun y hy => h y (by simp [hy]))
    have hx := h x (by simp)
    have e : sizeS (x :: S) = (1 + x.1.2.length + x.2.length) + sizeS S := by simp [sizeS]
    rw [e, List.length_cons, Nat.add_mul]
    omega
end Go.Proofs.YtkkfmkhbdoeglaaGreatDoor
