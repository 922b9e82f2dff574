/- Changes whose keys have nothing in common come in either order, in plain data; how many entries, how many bytes changes leave. No program. No condition. -/
import Derived.Test.YtkkfmkhbdoeglaaDoorTabPlain
import Derived.Test.YtkkfmkhbdoeglaaDoorKeepDelta
import Derived.Test.YtkkfmkhbdoeglaaDoorEncode
import Derived.Test.YtkkfmkhbdoeglaaDoorTabApply
namespace Go.Proofs.YtkkfmkhbdoeglaaDoor

def keyO (o : OpB) : K := (o.table, o.key)
theorem mem_op (S : List E) (o : OpB) (x : E) : x ∈ opS S o ↔ (o.kind = 1 ∧ x = (keyO o, o.val)) ∨ (x ∈ S ∧ x.1 ≠ keyO o) := by
  unfold opS keyO
  split
  · rename_i h
    rw [mem_put]
    simp [h]
  · rename_i h
    rw [mem_drop]
    simp [h]
theorem op_comm {S : List E} (hs : SortedE S) (o p : OpB) (h : keyO o ≠ keyO p) : opS (opS S o) p = opS (opS S p) o := by
  refine SortedE.ext (sorted_op _ (sorted_op _ hs)) (sorted_op _ (sorted_op _ hs)) fun x => ?_
  rw [mem_op, mem_op, mem_op, mem_op]
  constructor
  · rintro (⟨h1, rfl⟩ | ⟨⟨h1, rfl⟩ | ⟨h1, h2⟩, h3⟩)
    · exact .inr ⟨.inl ⟨h1, rfl⟩, fun e => h e.symm⟩
    · exact .inl ⟨h1, rfl⟩
    · exact .inr ⟨.inr ⟨h1, h3⟩, h2⟩
  · rintro (⟨h1, rfl⟩ | ⟨⟨h1, rfl⟩ | ⟨h1, h2⟩, h3⟩)
    · exact .inr ⟨.inl ⟨h1, rfl⟩, h⟩
    · exact .inl ⟨h1, rfl⟩
    · exact .inr ⟨.inr ⟨h1, h3⟩, h2⟩
theorem fold_op : ∀ (us : List OpB) {S : List E} (_ : SortedE S) (o : OpB) (_ : ∀ u ∈ us, keyO o ≠ keyO u), foldS (opS S o) us = opS (foldS S us) o
  | [], _, _, _, _ => rfl
  | u :: us, S, hs, o, h => by
    show foldS (opS (opS S o) u) us = opS (foldS (opS S u) us) o
    rw [op_comm hs o u (h u (by simp))]
    exact fold_op us (sorted_op _ hs) o fun v hv => h v (List.mem_cons_of_mem _ hv)
theorem fold_comm : ∀ (os us : List OpB) {S : List E} (_ : SortedE S) (_ : ∀ o ∈ os, ∀ u ∈ us, keyO o ≠ keyO u), foldS (foldS S os) us = foldS (foldS S us) os
  | [], _, _, _, _ => rfl
  | o :: os, us, S, hs, h => by
    show foldS (foldS (opS S o) os) us = foldS (opS (foldS S us) o) os
    rw [fold_comm os us (sorted_op _ hs) fun v hv => h v (List.mem_cons_of_mem _ hv), fold_op us hs o (h o (by simp))]
theorem two_filters (p q : E → Bool) (h : ∀ x, p x = true → q x = false) : ∀ S : List E, (S.filter p).length + (S.filter q).length ≤ S.length
  | [] => Nat.le_refl _
  | x :: S => by
    have ih := two_filters p q h S
    cases hp : p x with
    | true =>
      rw [List.filter_cons_of_pos hp, List.filter_cons_of_neg (by rw [h x hp]; decide)]
      simp only [List.length_cons]
      omega
    | false =>
      rw [List.filter_cons_of_neg (by rw [hp]; decide)]
      have := List.length_filter_le q [x]
      cases hq : q x with
      | true => rw [List.filter_cons_of_pos hq]; simp only [List.length_cons]; omega
      | false => rw [List.filter_cons_of_neg (by rw [hq]; decide)]; simp only [List.length_cons]; omega
theorem length_op (S : List E) (o : OpB) : (opS S o).length ≤ S.length + 1 := by
  unfold opS
  split
  · unfold putS
    rw [List.length_append, List.length_cons]
    exact Nat.succ_le_succ (two_filters _ _ (fun x h => ltK_asymm h) S)
  · unfold dropS
    exact Nat.le_succ_of_le (List.length_filter_le _ S)
theorem length_fold : ∀ (os : List OpB) {S : List E} (_ : SortedE S), (foldS S os).length ≤ S.length + os.length
  | [], _, _ => Nat.le_refl _
  | o :: os, S, hs => by
    have h1 := length_op S o
    have h2 := length_fold os (sorted_op o hs)
    show (foldS (opS S o) os).length ≤ _
    simp only [List.length_cons]
    omega
end Go.Proofs.YtkkfmkhbdoeglaaDoor

/- The plain part of the law Apart. No program. No condition. -/
namespace Go.Proofs.YtkkfmkhbdoeglaaDoor
open Go.RowKit

theorem opWrong_less {o : OpB} {ks ks' : List K} (h : opWrong o ks = 0) (hs : ∀ k ∈ ks', k ∈ ks) : opWrong o ks' = 0 := by
  unfold opWrong at h ⊢
  split at h
  · cases h
  · rename_i h1
    rw [if_neg h1]
    split at h
    · cases h
    · rename_i h2
      rw [if_neg h2]
      split at h
      · cases h
      · rename_i h3
        rw [if_neg (by
          intro h4
          refine h3 ?_
          rw [List.contains_iff_mem] at h4 ⊢
          exact hs _ h4)]
        exact h
theorem wrongFrom_filter (p : OpB → Bool) : ∀ (os : List OpB) (i j : Nat) (ks ks' : List K), wrongFrom i ks os = none → (∀ k ∈ ks', k ∈ ks) → wrongFrom j ks' (os.filter p) = none
  | [], _, _, _, _, _, _ => rfl
  | o :: os, i, j, ks, ks', h, hs => by
    unfold wrongFrom at h
    split at h
    · rename_i h0
      rw [List.filter_cons]
      split
      · unfold wrongFrom
        rw [if_pos (opWrong_less h0 hs)]
        exact wrongFrom_filter p os _ _ _ _ h (by
          intro k hk
          rw [List.mem_append] at hk ⊢
          exact hk.imp (hs k) id)
      · exact wrongFrom_filter p os _ _ _ _ h (fun k hk => List.mem_append.2 (.inl (hs k hk)))
    · cases h
/-- of a second delta the changes whose key the first has not -/
def fewN (ks : List K) (us : List OpB) : List OpB := us.filter fun u => !ks.contains (keyO u)
theorem fewN_length (ks : List K) (us : List OpB) : (fewN ks us).length ≤ us.length := List.length_filter_le _ _
theorem fewN_good (ks : List K) (l : List Int) (v : Nat) (hv : isVersionB v = true) (h : fewN ks (deltaN l) ≠ []) : wrongB v (fewN ks (deltaN l)) = none := by
  have hg := deltaN_good l v hv
  have hl := deltaN_length l
  have hf := fewN_length ks (deltaN l)
  have hp : 1 ≤ (fewN ks (deltaN l)).length := List.length_pos_iff.2 h
  unfold wrongB at hg ⊢
  rw [if_neg (by rw [hv]; decide), if_neg (by omega)] at hg
  rw [if_neg (by rw [hv]; decide), if_neg (by omega)]
  exact wrongFrom_filter _ _ _ _ _ _ hg (fun _ h => h)
theorem few_apart (os us : List OpB) : ∀ o ∈ os, ∀ u ∈ fewN (keysOf os) us, keyO o ≠ keyO u := by
  intro o ho u hu e
  have := (List.mem_filter.1 hu).2
  rw [← e] at this
  have hm : keyO o ∈ keysOf os := List.mem_map.2 ⟨o, ho, rfl⟩
  simp [hm] at this
theorem fewN_take (ks : List K) (us : List OpB) (k : Nat) (h : k < us.length) : fewN ks (us.take (k + 1)) = if ks.contains (keyO us[k]) then fewN ks (us.take k) else fewN ks (us.take k) ++ [us[k]] := by
  unfold fewN
  rw [List.take_succ_eq_append_getElem h, List.filter_append]
  cases hc : ks.contains (keyO us[k]) with
  | true => rw [List.filter_cons, hc]; simp
  | false => rw [List.filter_cons, hc]; simp
theorem mem_foldS : ∀ (os : List OpB) (S : List E) (x : E), x ∈ foldS S os → x ∈ S ∨ ∃ o ∈ os, x = (keyO o, o.val)
  | [], _, _, h => .inl h
  | o :: os, S, x, h => by
    rcases mem_foldS os (opS S o) x h with h | ⟨u, hu, e⟩
    · rcases (mem_op S o x).1 h with ⟨-, e⟩ | ⟨h, -⟩
      · exact .inr ⟨o, by simp, e⟩
      · exact .inl h
    · exact .inr ⟨u, by simp [hu], e⟩
theorem sizeS_le (b : Nat) : ∀ (S : List E), (∀ x ∈ S, x.1.2.length ≤ b ∧ x.2.length ≤ b) → sizeS S ≤ S.length * (1 + b + b)
  | [], _ => by simp [sizeS]
  | x :: S, h => by
    have ih := sizeS_le b S (fun y hy => h y (by simp [hy]))
    have hx := h x (by simp)
    have e : sizeS (x :: S) = (1 + x.1.2.length + x.2.length) + sizeS S := by simp [sizeS]
    rw [e, List.length_cons, Nat.add_mul]
    omega
theorem opN_small {v : Nat} {os : List OpB} (h : wrongB v os = none) : ∀ o ∈ os, o.key.length ≤ 12 ∧ o.val.length ≤ 12 := by
  have hv : wrongFrom 0 [] os = none := by
    unfold wrongB at h
    split at h
    · cases h
    · split at h
      · cases h
      · exact h
  intro o ho
  obtain ⟨k, hk, rfl⟩ := List.getElem_of_mem ho
  obtain ⟨ks, hks⟩ := wrongFrom_none_at os 0 [] hv k hk
  have := (opBytes_le hks).1
  simp [opBytes] at this
  omega
/-- what few small changes leave is small -/
theorem small_fold (os : List OpB) (hl : os.length ≤ 24) (hs : ∀ o ∈ os, o.key.length ≤ 12 ∧ o.val.length ≤ 12) : (foldS [] os).length ≤ 1000000000 ∧ sizeS (foldS [] os) ≤ 4611686018427387904 := by
  have h1 := length_fold os SortedE.nil
  have h2 := sizeS_le 12 (foldS [] os) (by
    intro x hx
    rcases mem_foldS os [] x hx with h | ⟨o, ho, rfl⟩
    · cases h
    · exact hs o ho)
  have h3 : (foldS [] os).length * 25 ≤ 24 * 25 := Nat.mul_le_mul_right _ (by simp at h1; omega)
  simp at h1
  omega
end Go.Proofs.YtkkfmkhbdoeglaaDoor

/- What the law Apart holds behind its loops: two tables, three deltas, and a part of one. No condition. -/
namespace Go.Proofs.YtkkfmkhbdoeglaaDoor
open Go.RowKit

/-- a fault that is none, in a block of its own -/
def ZeroF (w : World) (b : Nat) : Prop := w.heap[b]? = some (.cells #[.int .i64 0, .int .i64 0, .int .i64 0] 28 (0, 0))
structure AP (w0 : World) (N fa qa ra fb qb rb bd be bz : Nat) (dv ev zv fv : Value) (ds es zs us : List OpB) (Sa Sb : List E) (w : World) : Prop where
  ta : FoldAt w fa qa ra Sa
  tb : FoldAt w fb qb rb Sb
  hd : w.heap[bd]? = some (.cells #[.int .u64 1, dv] 46 (0, 0))
  he : w.heap[be]? = some (.cells #[.int .u64 2, ev] 46 (0, 0))
  hz : w.heap[bz]? = some (.cells #[.int .u64 3, zv] 46 (0, 0))
  d : OpsAt w dv ds
  e : OpsAt w ev es
  z : OpsAt w zv zs
  f : OpsAt w fv us
  g : ShapesVar w
  ge : ErrVar w
  bw : Below w0.heap.size w0 w
  lt : (fa < N ∧ qa < N ∧ ra < N) ∧ (fb < N ∧ qb < N ∧ rb < N) ∧ bd < N ∧ be < N ∧ bz < N
  le : N ≤ w.heap.size
  od : ∀ b, dv.ownBlock = some b → b < N ∧ b ≠ be
  oe : ∀ b, ev.ownBlock = some b → b < N
  oz : ∀ b, zv.ownBlock = some b → b < N ∧ b ≠ be
  of : ∀ b, fv.ownBlock = some b → b < N ∧ b ≠ be
  ne : (ra ≠ rb ∧ fa ≠ rb ∧ qa ≠ rb ∧ fb ≠ ra ∧ qb ≠ ra) ∧ (bd ≠ ra ∧ bd ≠ rb ∧ be ≠ ra ∧ be ≠ rb ∧ bz ≠ ra ∧ bz ≠ rb) ∧ (be ≠ fa ∧ be ≠ qa ∧ be ≠ fb ∧ be ≠ qb ∧ be ≠ bd ∧ be ≠ bz)
  lo : 2 ≤ w0.heap.size ∧ w0.heap.size ≤ ra ∧ w0.heap.size ≤ rb ∧ w0.heap.size ≤ be
section
variable {w0 : World} {N fa qa ra fb qb rb bd be bz : Nat} {dv ev zv fv : Value} {ds es zs us : List OpB} {Sa Sb T : List E} {w w' : World}
theorem AP.kept (h : AP w0 N fa qa ra fb qb rb bd be bz dv ev zv fv ds es zs us Sa Sb w) (hb : Below N w w') : AP w0 N fa qa ra fb qb rb bd be bz dv ev zv fv ds es zs us Sa Sb w' := by
  obtain ⟨⟨l1, l2, l3⟩, ⟨l4, l5, l6⟩, l7, l8, l9⟩ := h.lt
  obtain ⟨m1, m2, m3, m4⟩ := h.lo
  exact ⟨⟨(hb.cell (p := ⟨fa, 0, none⟩) l1).trans h.ta.cell, (hb.cell (p := ⟨qa, 0, none⟩) l2).trans h.ta.ent.cell, h.ta.ent.tab.old (hb.block ra l3)⟩,
    ⟨(hb.cell (p := ⟨fb, 0, none⟩) l4).trans h.tb.cell, (hb.cell (p := ⟨qb, 0, none⟩) l5).trans h.tb.ent.cell, h.tb.ent.tab.old (hb.block rb l6)⟩,
    (hb.block bd l7).trans h.hd, (hb.block be l8).trans h.he, (hb.block bz l9).trans h.hz,
    SliceAt.frame h.d (fun b e _ => hb.block b (h.od b e).1), SliceAt.frame h.e (fun b e _ => hb.block b (h.oe b e)), SliceAt.frame h.z (fun b e _ => hb.block b (h.oz b e).1), SliceAt.frame h.f (fun b e _ => hb.block b (h.of b e).1),
    h.g.old hb.size (hb.block _ (by omega)), h.ge.below hb (by omega), h.bw.trans (hb.mono (by omega)), h.lt, Nat.le_trans h.le hb.size, h.od, h.oe, h.oz, h.of, h.ne, h.lo⟩
theorem AP.turnA (h : AP w0 N fa qa ra fb qb rb bd be bz dv ev zv fv ds es zs us Sa Sb w) (hx : Ext (fun i => i = ra) w w') (ht : TabAt w' ra T) : AP w0 N fa qa ra fb qb rb bd be bz dv ev zv fv ds es zs us T Sb w' := by
  obtain ⟨⟨n1, n2, n3, n4, n5⟩, ⟨n6, n7, n8, n9, n10, n11⟩, -⟩ := h.ne
  obtain ⟨m1, m2, m3, m4⟩ := h.lo
  have hr := h.ta.ent.tab
  have hs := h.bw.size
  exact ⟨h.ta.step hx ht, h.tb.other hx n4 n5 (Ne.symm n1), hx.at n6 h.hd, hx.at n8 h.he, hx.at n10 h.hz, h.d.keep hr hx, h.e.keep hr hx, h.z.keep hr hx, h.f.keep hr hx,
    h.g.old hx.size (hx.block _ (by omega) (by omega)), h.ge.ext hx (fun k e => by omega), h.bw.trans (hx.below hs (fun k hk e => by omega)), h.lt, Nat.le_trans h.le hx.size, h.od, h.oe, h.oz, h.of, h.ne, h.lo⟩
theorem AP.turnB (h : AP w0 N fa qa ra fb qb rb bd be bz dv ev zv fv ds es zs us Sa Sb w) (hx : Ext (fun i => i = rb) w w') (ht : TabAt w' rb T) : AP w0 N fa qa ra fb qb rb bd be bz dv ev zv fv ds es zs us Sa T w' := by
  obtain ⟨⟨n1, n2, n3, n4, n5⟩, ⟨n6, n7, n8, n9, n10, n11⟩, -⟩ := h.ne
  obtain ⟨m1, m2, m3, m4⟩ := h.lo
  have hr := h.tb.ent.tab
  have hs := h.bw.size
  exact ⟨h.ta.other hx n2 n3 n1, h.tb.step hx ht, hx.at n7 h.hd, hx.at n9 h.he, hx.at n11 h.hz, h.d.keep hr hx, h.e.keep hr hx, h.z.keep hr hx, h.f.keep hr hx,
    h.g.old hx.size (hx.block _ (by omega) (by omega)), h.ge.ext hx (fun k e => by omega), h.bw.trans (hx.below hs (fun k hk e => by omega)), h.lt, Nat.le_trans h.le hx.size, h.od, h.oe, h.oz, h.of, h.ne, h.lo⟩
theorem AP.setE (h : AP w0 N fa qa ra fb qb rb bd be bz dv ev zv fv ds es zs us Sa Sb w) : AP w0 N fa qa ra fb qb rb bd be bz dv fv zv fv ds us zs us Sa Sb (w.setCell ⟨be, 1, none⟩ fv) := by
  obtain ⟨-, ⟨-, -, n8, n9, -, -⟩, ⟨p1, p2, p3, p4, p5, p6⟩⟩ := h.ne
  obtain ⟨m1, m2, m3, m4⟩ := h.lo
  have hb : ∀ j, j ≠ be → (w.setCell ⟨be, 1, none⟩ fv).heap[j]? = w.heap[j]? := fun j hj => Below.heap_setCell _ _ _ j hj
  have hc : ∀ (a : Addr) (v : Value), a.block ≠ be → w.cell? a = some v → (w.setCell ⟨be, 1, none⟩ fv).cell? a = some v := fun a v ha h => (World.cell?_of_block (hb _ ha)).trans h
  have hsz : (w.setCell ⟨be, 1, none⟩ fv).heap.size = w.heap.size := size_setCell _ _ _
  have hB : Below w0.heap.size w (w.setCell ⟨be, 1, none⟩ fv) := (Below.refl _ w).setCell (p := ⟨be, 1, none⟩) m4 fv
  exact ⟨⟨hc ⟨fa, 0, none⟩ _ p1.symm h.ta.cell, hc ⟨qa, 0, none⟩ _ p2.symm h.ta.ent.cell, h.ta.ent.tab.old (hb ra n8.symm)⟩,
    ⟨hc ⟨fb, 0, none⟩ _ p3.symm h.tb.cell, hc ⟨qb, 0, none⟩ _ p4.symm h.tb.ent.cell, h.tb.ent.tab.old (hb rb n9.symm)⟩,
    (hb bd p5.symm).trans h.hd, heap_setCell w be 1 fv h.he, (hb bz p6.symm).trans h.hz,
    SliceAt.frame h.d (fun b e _ => hb b (h.od b e).2), SliceAt.frame h.f (fun b e _ => hb b (h.of b e).2), SliceAt.frame h.z (fun b e _ => hb b (h.oz b e).2), SliceAt.frame h.f (fun b e _ => hb b (h.of b e).2),
    h.g.old hB.size (hb _ (by omega)), h.ge.below hB m1, h.bw.trans hB, h.lt, by rw [hsz]; exact h.le, h.od, (fun b e => (h.of b e).1), h.oz, h.of, h.ne, h.lo⟩
theorem AP.callA (h : AP w0 N fa qa ra fb qb rb bd be bz dv ev zv fv ds es zs us Sa Sb w) (v : Nat) (sv : Value) (os : List OpB) (hs : OpsAt w sv os) (hw : wrongB v os = none) :
    Calls Tryd.prog 17 #[.pointer (some ⟨fa, 0, none⟩), .agg #[.int .u64 v, sv]] w fun e w' => e = .returned (.agg #[.int .i64 0, .int .i64 0, .int .i64 0]) ∧ AP w0 N fa qa ra fb qb rb bd be bz dv ev zv fv ds es zs us (foldS Sa os) Sb w' ∧ Ext (fun i => i = ra) w w' := by
  have hsm := opN_small hw
  refine (foldedApply_any fa qa ra Sa v sv os w h.ta hs h.g h.ge (fun o ho => ⟨by have := (hsm o ho).1; unfold maxB; omega, by have := (hsm o ho).2; unfold maxB; omega⟩) (by have := h.lo; omega)).mono ?_
  rintro e w' ⟨rfl, ht, hx⟩
  have e1 : applyV v os = .agg #[.int .i64 0, .int .i64 0, .int .i64 0] := by unfold applyV; rw [hw]; rfl
  have e2 : applyS v Sa os = foldS Sa os := by unfold applyS; rw [hw]
  rw [e2] at ht
  exact ⟨by rw [e1], h.turnA hx ht, hx⟩
theorem AP.callB (h : AP w0 N fa qa ra fb qb rb bd be bz dv ev zv fv ds es zs us Sa Sb w) (v : Nat) (sv : Value) (os : List OpB) (hs : OpsAt w sv os) (hw : wrongB v os = none) :
    Calls Tryd.prog 17 #[.pointer (some ⟨fb, 0, none⟩), .agg #[.int .u64 v, sv]] w fun e w' => e = .returned (.agg #[.int .i64 0, .int .i64 0, .int .i64 0]) ∧ AP w0 N fa qa ra fb qb rb bd be bz dv ev zv fv ds es zs us Sa (foldS Sb os) w' ∧ Ext (fun i => i = rb) w w' := by
  have hsm := opN_small hw
  refine (foldedApply_any fb qb rb Sb v sv os w h.tb hs h.g h.ge (fun o ho => ⟨by have := (hsm o ho).1; unfold maxB; omega, by have := (hsm o ho).2; unfold maxB; omega⟩) (by have := h.lo; omega)).mono ?_
  rintro e w' ⟨rfl, ht, hx⟩
  have e1 : applyV v os = .agg #[.int .i64 0, .int .i64 0, .int .i64 0] := by unfold applyV; rw [hw]; rfl
  have e2 : applyS v Sb os = foldS Sb os := by unfold applyS; rw [hw]
  rw [e2] at ht
  exact ⟨by rw [e1], h.turnB hx ht, hx⟩
theorem ZeroF.ext {S : Nat → Prop} {b : Nat} (h : ZeroF w b) (hx : Ext S w w') (hs : ¬ S b) : ZeroF w' b := hx.at hs h
theorem ZeroF.below {b : Nat} (h : ZeroF w b) (hb : Below w.heap.size w w') : ZeroF w' b := below_at hb (block_lt h) h
theorem ZeroF.cells {b : Nat} (h : ZeroF w b) : w.cell? ⟨b, 0, none⟩ = some (.int .i64 0) ∧ w.cell? ⟨b, 1, none⟩ = some (.int .i64 0) ∧ w.cell? ⟨b, 2, none⟩ = some (.int .i64 0) :=
  ⟨cell_of_row _ _ 0 _ _ _ h, cell_of_row _ _ 1 _ _ _ h, cell_of_row _ _ 2 _ _ _ h⟩
theorem ZeroF.frozen {b : Nat} (h : ZeroF w b) : w.frozen? ⟨b, 0, none⟩ = false ∧ w.frozen? ⟨b, 1, none⟩ = false ∧ w.frozen? ⟨b, 2, none⟩ = false :=
  ⟨frozen_of_row _ _ 0 _ _ h, frozen_of_row _ _ 1 _ _ h, frozen_of_row _ _ 2 _ _ h⟩
/-- three stores of noughts into such a block -/
def set3z (w : World) (b : Nat) : World := ((w.setCell ⟨b, 0, none⟩ (.int .i64 0)).setCell ⟨b, 1, none⟩ (.int .i64 0)).setCell ⟨b, 2, none⟩ (.int .i64 0)
theorem ZeroF.set (w : World) (b c : Nat) (h : ZeroF w c) : ZeroF (set3z w b) c := by
  by_cases hc : c = b
  · subst hc
    exact heap_setCell _ _ 2 _ (heap_setCell _ _ 1 _ (heap_setCell _ _ 0 _ h))
  · unfold set3z ZeroF
    rw [Below.heap_setCell _ _ _ c hc, Below.heap_setCell _ _ _ c hc, Below.heap_setCell _ _ _ c hc]
    exact h
theorem set3z_below {B : Nat} (b : Nat) (hb : B ≤ b) (w : World) : Below B w (set3z w b) :=
  (((Below.refl B w).setCell (p := ⟨b, 0, none⟩) hb _).setCell (p := ⟨b, 1, none⟩) hb _).setCell (p := ⟨b, 2, none⟩) hb _
end
end Go.Proofs.YtkkfmkhbdoeglaaDoor
