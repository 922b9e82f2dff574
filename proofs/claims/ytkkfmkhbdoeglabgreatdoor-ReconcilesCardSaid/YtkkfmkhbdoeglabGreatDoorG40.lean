/- A part of what is proved here: lemmas and contracts of single functions. No condition but those that each names. -/
namespace Go.Proofs.YtkkfmkhbdoeglabGreatDoor
/-- what a sector says of itself -/
structure Part where
  stamp : Nat
  i : Nat
  of : Nat
  ok : Bool
  data : List UInt8
instance : Inhabited Part := ⟨⟨0, 0, 0, false, []⟩⟩
structure Thing where
  stamp : Nat
  data : List UInt8
  to : Nat
def partOk (d : List Part) (at' s n i : Nat) : Bool := match d[at' + i]? with
  | some b => b.stamp == s && b.i == i && b.of == n && b.ok
  | none => false
def dataD (d : List Part) (at' n : Nat) : List UInt8 := (List.range n).flatMap fun i => (d.getD (at' + i) default).data
def wholeD (d : List Part) (at' : Nat) : Option Thing := match d[at']? with
  | none => none
  | some b => if b.stamp ≠ 0 ∧ 0 < b.of ∧ (List.range b.of).all (partOk d at' b.stamp b.of) = true then some ⟨b.stamp, dataD d at' b.of, at' + b.of⟩ else none
theorem partOk_iff {d : List Part} {at' s n i : Nat} : partOk d at' s n i = true ↔ ∃ b, d[at' + i]? = some b ∧ b.stamp = s ∧ b.i = i ∧ b.of = n ∧ b.ok = true := by
  unfold partOk
  split
  · rename_i b h
    simp only [h, Option.some.injEq, Bool.and_eq_true, beq_iff_eq]
    constructor
    · rintro ⟨⟨⟨h1, h2⟩, h3⟩, h4⟩
      exact ⟨b, rfl, h1, h2, h3, h4⟩
    · rintro ⟨b', rfl, h1, h2, h3, h4⟩
      exact ⟨⟨⟨h1, h2⟩, h3⟩, h4⟩
  · rename_i h
    simp [h]
/-- a thing stands whole at a place -/
def WholeAt (d : List Part) (at' : Nat) (x : Thing) : Prop :=
  ∃ n, 0 < n ∧ x.stamp ≠ 0 ∧ x.to = at' + n ∧ x.data = dataD d at' n ∧ ∀ i, i < n → ∃ b, d[at' + i]? = some b ∧ b.stamp = x.stamp ∧ b.i = i ∧ b.of = n ∧ b.ok = true
theorem whole_iff {d : List Part} {at' : Nat} {x : Thing} : wholeD d at' = some x ↔ WholeAt d at' x := by
  unfold wholeD WholeAt
  constructor
  · intro h
    split at h
    · cases h
    · rename_i b hb
      split at h
      · rename_i hc
        obtain ⟨h1, h2, h3⟩ := hc
        cases h
        refine ⟨b.of, h2, h1, rfl, rfl, fun i hi => ?_⟩
        exact partOk_iff.1 (List.all_eq_true.1 h3 i (List.mem_range.2 hi))
      · cases h
  · rintro ⟨n, hn, hs, ht, hd, hp⟩
    obtain ⟨b, hb, h1, h2, h3, h4⟩ := hp 0 hn
    rw [Nat.add_zero] at hb
    simp only [hb]
    have hall : (List.range b.of).all (partOk d at' b.stamp b.of) = true := by
      rw [h1, h3]
      exact List.all_eq_true.2 fun i hi => partOk_iff.2 (hp i (List.mem_range.1 hi))
    rw [if_pos ⟨by rw [h1]; exact hs, by rw [h3]; exact hn, hall⟩]
    cases x
    simp only at h1 ht hd ⊢
    subst ht hd
    rw [h1, h3]
theorem flatMap_congr_mem {α β : Type} {l : List α} {f g : α → List β} (h : ∀ a ∈ l, f a = g a) : l.flatMap f = l.flatMap g := by
  induction l with
  | nil => rfl
  | cons a l ih => rw [List.flatMap_cons, List.flatMap_cons, h a (by simp), ih fun b hb => h b (List.mem_cons_of_mem _ hb)]
theorem dataD_congr {d d' : List Part} {at' n : Nat} (h : ∀ j, at' ≤ j → j < at' + n → d'[j]? = d[j]?) : dataD d' at' n = dataD d at' n := by
  unfold dataD
  refine flatMap_congr_mem fun i hi => ?_
  have := h (at' + i) (by omega) (by have := List.mem_range.1 hi; omega)
  simp only [List.getD_eq_getElem?_getD, this]
theorem WholeAt.congr {d d' : List Part} {at' : Nat} {x : Thing} (h : WholeAt d at' x) (hc : ∀ j, at' ≤ j → j < x.to → d'[j]? = d[j]?) : WholeAt d' at' x := by
  obtain ⟨n, hn, hs, ht, hd, hp⟩ := h
  refine ⟨n, hn, hs, ht, by rw [hd, dataD_congr (fun j h1 h2 => hc j h1 (by omega))], fun i hi => ?_⟩
  rw [hc (at' + i) (by omega) (by omega)]
  exact hp i hi
theorem WholeAt.lt {d : List Part} {at' : Nat} {x : Thing} (h : WholeAt d at' x) : at' < x.to ∧ x.to ≤ d.length := by
  obtain ⟨n, hn, hs, ht, hd, hp⟩ := h
  obtain ⟨b, hb, -⟩ := hp (n - 1) (by omega)
  have := (List.getElem?_eq_some_iff.1 hb).1
  omega
theorem WholeAt.stamp_mem {d : List Part} {at' : Nat} {x : Thing} (h : WholeAt d at' x) : ∃ b ∈ d, b.stamp = x.stamp := by
  obtain ⟨n, hn, hs, ht, hd, hp⟩ := h
  obtain ⟨b, hb, h1, -⟩ := hp 0 hn
  exact ⟨b, List.mem_of_getElem? hb, h1⟩
theorem WholeAt.fun_ {d : List Part} {at' : Nat} {x y : Thing} (h : WholeAt d at' x) (k : WholeAt d at' y) : x = y := by
  have := (whole_iff.2 h).symm.trans (whole_iff.2 k)
  exact Option.some.inj this
/-- a disk behind a write of which some took hold -/
structure Mixed (d d' : List Part) (at' : Nat) (ps : List Part) : Prop where
  len : d'.length = d.length
  get : ∀ j, d'[j]? = d[j]? ∨ (at' ≤ j ∧ j < at' + ps.length ∧ d'[j]? = ps[j - at']?)
/-- all of it did -/
def FullAt (d' : List Part) (at' : Nat) (ps : List Part) : Prop := ∀ i, i < ps.length → d'[at' + i]? = ps[i]?
/-- sectors of one write -/
structure NewParts (s : Nat) (ps : List Part) (data : List UInt8) : Prop where
  pos : 0 < ps.length
  get : ∀ (i : Nat) (p : Part), ps[i]? = some p → p.stamp = s ∧ p.i = i ∧ p.of = ps.length ∧ p.ok = true
  data : data = ps.flatMap (·.data)
theorem Mixed.off {d d' : List Part} {at' : Nat} {ps : List Part} (h : Mixed d d' at' ps) {j : Nat} (hj : j < at' ∨ at' + ps.length ≤ j) : d'[j]? = d[j]? := by
  rcases h.get j with e | ⟨h1, h2, -⟩
  · exact e
  · omega
theorem flat_range (ps : List Part) : ps.flatMap (·.data) = (List.range ps.length).flatMap fun i => (ps.getD i default).data := by
  induction ps with
  | nil => rfl
  | cons p ps ih =>
    rw [List.flatMap_cons, ih, List.length_cons, List.range_succ_eq_map, List.flatMap_cons, List.flatMap_map]
    rfl
theorem whole_full {d' : List Part} {at' s : Nat} {ps : List Part} {data : List UInt8} (hn : NewParts s ps data) (hs : s ≠ 0) (hf : FullAt d' at' ps) : WholeAt d' at' ⟨s, data, at' + ps.length⟩ := by
  refine ⟨ps.length, hn.pos, hs, rfl, ?_, fun i hi => ?_⟩
  · rw [hn.data, flat_range]
    unfold dataD
    refine flatMap_congr_mem fun i hi => ?_
    rw [List.getD_eq_getElem?_getD, List.getD_eq_getElem?_getD, hf i (List.mem_range.1 hi)]
  · have hp : ps[i]? = some ps[i] := List.getElem?_eq_getElem hi
    obtain ⟨h1, h2, h3, h4⟩ := hn.get i _ hp
    exact ⟨ps[i], by rw [hf i hi, hp], h1, h2, h3, h4⟩
/-- what is whole behind it: all that was written, or what was whole and is untouched -/
theorem whole_mixed {d d' : List Part} {at' s : Nat} {ps : List Part} {data : List UInt8} (hm : Mixed d d' at' ps) (hn : NewParts s ps data) (hfr : ∀ b ∈ d, b.stamp < s) {i : Nat} {x : Thing} (h : WholeAt d' i x) :
    (i = at' ∧ x = ⟨s, data, at' + ps.length⟩ ∧ FullAt d' at' ps) ∨ (WholeAt d i x ∧ x.stamp < s ∧ ∀ j, i ≤ j → j < x.to → d'[j]? = d[j]?) := by
  obtain ⟨n, h0, hs, ht, hd, hp⟩ := h
  have hnew : ∀ (j : Nat) (b : Part), at' ≤ j → j < at' + ps.length → d'[j]? = ps[j - at']? → d'[j]? = some b → b.stamp = s ∧ b.i = j - at' ∧ b.of = ps.length := by
    intro j b _ _ h3 h4
    rw [h4] at h3
    obtain ⟨h1, h2, h3, -⟩ := hn.get _ _ h3.symm
    exact ⟨h1, h2, h3⟩
  have hold : ∀ (j : Nat) (b : Part), d'[j]? = d[j]? → d'[j]? = some b → b.stamp < s := fun j b h1 h2 => hfr b (List.mem_of_getElem? (h1.symm.trans h2))
  by_cases hst : x.stamp = s
  · left
    have key : ∀ k, k < n → at' ≤ i + k ∧ i + k < at' + ps.length ∧ d'[i + k]? = ps[i + k - at']? ∧ k = i + k - at' ∧ n = ps.length := by
      intro k hk
      obtain ⟨b, hb, h1, h2, h3, h4⟩ := hp k hk
      rcases hm.get (i + k) with e | ⟨e1, e2, e3⟩
      · have := hold _ _ e hb
        omega
      · obtain ⟨g1, g2, g3⟩ := hnew _ _ e1 e2 e3 hb
        exact ⟨e1, e2, e3, by omega, by omega⟩
    obtain ⟨k1, k2, k3, k4, k5⟩ := key 0 h0
    have hia : i = at' := by omega
    subst hia k5
    have hf : FullAt d' i ps := fun k hk => by
      obtain ⟨-, -, e, -, -⟩ := key k hk
      rw [e, Nat.add_sub_cancel_left]
    refine ⟨rfl, ?_, hf⟩
    have := whole_full hn (by omega : s ≠ 0) hf
    exact WholeAt.fun_ ⟨_, h0, hs, ht, hd, hp⟩ this
  · right
    have key : ∀ j, i ≤ j → j < x.to → d'[j]? = d[j]? := by
      intro j h1 h2
      obtain ⟨b, hb, g1, -⟩ := hp (j - i) (by omega)
      rw [show i + (j - i) = j by omega] at hb
      rcases hm.get j with e | ⟨e1, e2, e3⟩
      · exact e
      · exact absurd ((g1.symm).trans (hnew _ _ e1 e2 e3 hb).1) hst
    refine ⟨WholeAt.congr ⟨n, h0, hs, ht, hd, hp⟩ fun j h1 h2 => (key j h1 h2).symm, ?_, key⟩
    obtain ⟨b, hb, g1, -⟩ := hp 0 h0
    rw [← g1]
    exact hold _ _ (key (i + 0) (by omega) (by omega)) hb
theorem Mixed.take {d d' : List Part} {at' : Nat} {ps : List Part} (h : Mixed d d' at' ps) (m : Nat) : Mixed (d.take m) (d'.take m) at' ps := by
  refine ⟨by rw [List.length_take, List.length_take, h.len], fun j => ?_⟩
  by_cases hj : j < m
  · rw [List.getElem?_take_of_lt hj, List.getElem?_take_of_lt hj]
    exact h.get j
  · left
    rw [List.getElem?_eq_none (by rw [List.length_take]; omega), List.getElem?_eq_none (by rw [List.length_take]; omega)]
end Go.Proofs.YtkkfmkhbdoeglabGreatDoor
namespace Go.Proofs.YtkkfmkhbdoeglabGreatDoor
section
variable {T O : Type} (decS : List UInt8 → Option (Nat × T)) (decD : List UInt8 → Option (Nat × O)) (app : T → O → T)
/-- one place that may hold a state: (newest, slot, version, tables) -/
def slotD (d : List Part) (p : Nat) (acc : Nat × Nat × Nat × T) (s : Nat) : Nat × Nat × Nat × T := match wholeD (d.take (2 * p)) (s * p) with
  | some x => if acc.1 < x.stamp then (match decS x.data with
    | some (v, t) => (x.stamp, s, v, t)
    | none => acc) else acc
  | none => acc
def slotsD (d : List Part) (p : Nat) (t0 : T) : Nat × Nat × Nat × T := slotD decS d p (slotD decS d p (0, 0, 0, t0) 0) 1
/-- the newest delta of a version, of those that begin at one of these places: its stamp, behind its last sector, its changes -/
def pickStep (d : List Part) (ver : Nat) (acc : Option (Nat × Nat × O)) (i : Nat) : Option (Nat × Nat × O) := match wholeD d i with
  | some x => (match decD x.data with
    | some (v, o) => if v = ver ∧ (acc.elim 0 (·.1)) < x.stamp then some (x.stamp, x.to, o) else acc
    | none => acc)
  | none => acc
def pickD (d : List Part) (l : List Nat) (ver : Nat) : Option (Nat × Nat × O) := l.foldl (pickStep decD d ver) none
def deltaPlaces (d : List Part) (p : Nat) : List Nat := List.range' (2 * p) (d.length - 2 * p)
/-- the deltas behind a state, one behind the other -/
def chainD (pick : Nat → Option (Nat × Nat × O)) : Nat → Nat → Nat → T → Nat → Nat × T × Nat
  | 0, _, v, t, next => (v, t, next)
  | f + 1, newest, v, t, next => match pick (v + 1) with
    | some (st, to, o) => if st < newest then (v, t, next) else chainD pick f st (v + 1) (app t o) to
    | none => (v, t, next)
/-- deltas stand one behind the other: (places, things) -/
inductive Chain (d : List Part) : Nat → Nat → T → Nat → List (Nat × Thing) → Nat → Nat → T → Nat → Prop
  | nil (s v : Nat) (t : T) (pos : Nat) : Chain d s v t pos [] s v t pos
  | cons {s v pos s' v' pos' : Nat} {t t' : T} {l : List (Nat × Thing)} (x : Thing) (o : O) (hw : WholeAt d pos x) (hd : decD x.data = some (v + 1, o)) (hs : s < x.stamp)
      (h : Chain d x.stamp (v + 1) (app t o) x.to l s' v' t' pos') : Chain d s v t pos ((pos, x) :: l) s' v' t' pos'
/-- the newest state stands in a place; or there is none -/
def BaseAt (d : List Part) (p slot s0 v0 : Nat) (tb t0 : T) : Prop :=
  (s0 = 0 ∧ v0 = 0 ∧ tb = t0 ∧ slot = 0 ∧ ∀ s x, s < 2 → ¬ WholeAt (d.take (2 * p)) (s * p) x) ∨
  (slot < 2 ∧ (∃ x, WholeAt (d.take (2 * p)) (slot * p) x ∧ x.stamp = s0 ∧ decS x.data = some (v0, tb) ∧ x.to ≤ slot * p + p) ∧ ∀ y, WholeAt (d.take (2 * p)) ((1 - slot) * p) y → y.stamp < s0)
/-- what a disk holds: a version and tables, found by the newest state and the deltas behind it -/
def DiskInv (t0 : T) (d : List Part) (p slot v : Nat) (t : T) (next : Nat) : Prop :=
  ∃ s0 v0 tb l sN, BaseAt decS d p slot s0 v0 tb t0 ∧ Chain decD app d s0 v0 tb (2 * p) l sN v t next ∧ ∀ i x, 2 * p ≤ i → WholeAt d i x → (i, x) ∈ l ∨ x.stamp < s0
variable {decS decD app}
theorem Chain.pos {d : List Part} {s v pos s' v' pos' : Nat} {t t' : T} {l : List (Nat × Thing)} (h : Chain decD app d s v t pos l s' v' t' pos') : pos ≤ pos' ∧ s ≤ s' ∧ v' = v + l.length ∧ ∀ y ∈ l, pos ≤ y.1 ∧ y.2.to ≤ pos' ∧ s < y.2.stamp ∧ y.2.stamp ≤ s' ∧ WholeAt d y.1 y.2 := by
  induction h with
  | nil s v t pos => exact ⟨Nat.le_refl _, Nat.le_refl _, rfl, fun y hy => by cases hy⟩
  | cons x o hw hd hs h ih =>
    obtain ⟨h1, h2, h3, h4⟩ := ih
    have := hw.lt
    refine ⟨by omega, by omega, by rw [h3, List.length_cons]; omega, fun y hy => ?_⟩
    rcases List.mem_cons.1 hy with rfl | hy
    · exact ⟨Nat.le_refl _, h1, hs, h2, hw⟩
    · obtain ⟨g1, g2, g3, g4, g5⟩ := h4 y hy
      exact ⟨by omega, g2, by omega, g4, g5⟩
theorem Chain.congr {d d' : List Part} {s v pos s' v' pos' : Nat} {t t' : T} {l : List (Nat × Thing)} (h : Chain decD app d s v t pos l s' v' t' pos') (hc : ∀ j, pos ≤ j → j < pos' → d'[j]? = d[j]?) : Chain decD app d' s v t pos l s' v' t' pos' := by
  induction h with
  | nil s v t pos => exact .nil s v t pos
  | cons x o hw hd hs h ih =>
    have := hw.lt
    have := h.pos.1
    exact .cons x o (hw.congr fun j h1 h2 => hc j h1 (by omega)) hd hs (ih fun j h1 h2 => hc j (by omega) h2)
theorem Chain.snoc {d : List Part} {s v pos s' v' pos' : Nat} {t t' : T} {l : List (Nat × Thing)} (h : Chain decD app d s v t pos l s' v' t' pos') (x : Thing) (o : O) (hw : WholeAt d pos' x) (hd : decD x.data = some (v' + 1, o)) (hs : s' < x.stamp) :
    Chain decD app d s v t pos (l ++ [(pos', x)]) x.stamp (v' + 1) (app t' o) x.to := by
  induction h with
  | nil s v t pos => exact .cons x o hw hd hs (.nil _ _ _ _)
  | cons y o' hw' hd' hs' h ih => exact .cons y o' hw' hd' hs' (ih hw hd hs)
theorem pick_spec {d : List Part} {ver : Nat} : ∀ (l : List Nat) (acc : Option (Nat × Nat × O)),
    (∀ r, l.foldl (pickStep decD d ver) acc = some r → acc = some r ∨ ∃ i ∈ l, ∃ x o, WholeAt d i x ∧ decD x.data = some (ver, o) ∧ r = (x.stamp, x.to, o)) ∧
    (∀ i ∈ l, ∀ x o, WholeAt d i x → decD x.data = some (ver, o) → ∃ r, l.foldl (pickStep decD d ver) acc = some r ∧ x.stamp ≤ r.1) ∧
    (∀ r, acc = some r → ∃ r', l.foldl (pickStep decD d ver) acc = some r' ∧ r.1 ≤ r'.1)
  | [], acc => ⟨fun r h => .inl h, fun i h => (by cases h), fun r h => ⟨r, h, Nat.le_refl _⟩⟩
  | i :: l, acc => by
    obtain ⟨h1, h2, h3⟩ := pick_spec l (pickStep decD d ver acc i)
    have hstep : pickStep decD d ver acc i = acc ∨ ∃ x o, WholeAt d i x ∧ decD x.data = some (ver, o) ∧ pickStep decD d ver acc i = some (x.stamp, x.to, o) ∧ acc.elim 0 (·.1) < x.stamp := by
      unfold pickStep
      split
      · rename_i x hx
        split
        · rename_i v o ho
          split
          · rename_i hc
            obtain ⟨rfl, hc⟩ := hc
            exact .inr ⟨x, o, whole_iff.1 hx, ho, rfl, hc⟩
          · exact .inl rfl
        · exact .inl rfl
      · exact .inl rfl
    have hge : ∀ r, acc = some r → ∃ r', pickStep decD d ver acc i = some r' ∧ r.1 ≤ r'.1 := by
      intro r hr
      rcases hstep with e | ⟨x, o, -, -, e, hlt⟩
      · exact ⟨r, e.trans hr, Nat.le_refl _⟩
      · exact ⟨_, e, by rw [hr] at hlt; exact Nat.le_of_lt hlt⟩
    rw [List.foldl_cons]
    refine ⟨fun r hr => ?_, fun j hj x o hw ho => ?_, fun r hr => ?_⟩
    · rcases h1 r hr with e | ⟨j, hj, x, o, g1, g2, g3⟩
      · rcases hstep with e' | ⟨x, o, g1, g2, e', -⟩
        · exact .inl (e'.symm.trans e)
        · refine .inr ⟨i, by simp, x, o, g1, g2, ?_⟩
          rw [e'] at e
          exact (Option.some.inj e).symm
      · exact .inr ⟨j, List.mem_cons_of_mem _ hj, x, o, g1, g2, g3⟩
    · rcases List.mem_cons.1 hj with rfl | hj
      · have : ∃ r, pickStep decD d ver acc j = some r ∧ x.stamp ≤ r.1 := by
          unfold pickStep
          rw [whole_iff.2 hw]
          simp only [ho, true_and]
          split
          · exact ⟨_, rfl, Nat.le_refl _⟩
          · rename_i hn
            cases acc with
            | none =>
              obtain ⟨n, -, h0, -⟩ := hw
              simp at hn
              exact absurd hn h0
            | some r => exact ⟨r, rfl, by simp at hn; exact hn⟩
        obtain ⟨r, hr, hle⟩ := this
        obtain ⟨r', hr', hle'⟩ := h3 r hr
        exact ⟨r', hr', Nat.le_trans hle hle'⟩
      · exact h2 j hj x o hw ho
    · obtain ⟨r', hr', hle⟩ := hge r hr
      obtain ⟨r'', hr'', hle'⟩ := h3 r' hr'
      exact ⟨r'', hr'', Nat.le_trans hle hle'⟩
theorem mem_places {d : List Part} {p i : Nat} {x : Thing} (hi : 2 * p ≤ i) (h : WholeAt d i x) : i ∈ deltaPlaces d p := by
  have := h.lt
  unfold deltaPlaces
  rw [List.mem_range'_1]
  omega
theorem places_ge {d : List Part} {p i : Nat} (h : i ∈ deltaPlaces d p) : 2 * p ≤ i := by
  unfold deltaPlaces at h
  rw [List.mem_range'_1] at h
  exact h.1
/-- the versions of a chain -/
theorem Chain.ver {d : List Part} {s v pos s' v' pos' : Nat} {t t' : T} {l : List (Nat × Thing)} (h : Chain decD app d s v t pos l s' v' t' pos') : ∀ (y : Nat × Thing), y ∈ l → ∃ k o, v < k ∧ k ≤ v' ∧ decD y.2.data = some (k, o) := by
  induction h with
  | nil s v t pos => exact fun y hy => by cases hy
  | cons x o hw hd hs h ih =>
    have h3 := h.pos.2.2.1
    intro y hy
    rcases List.mem_cons.1 hy with rfl | hy
    · exact ⟨_, o, Nat.lt_succ_self _, by omega, hd⟩
    · obtain ⟨k, o', g1, g2, g3⟩ := ih y hy
      exact ⟨k, o', by omega, g2, g3⟩
theorem slots_base {d : List Part} {p slot s0 v0 : Nat} {tb t0 : T} (h : BaseAt decS d p slot s0 v0 tb t0) : slotsD decS d p t0 = (s0, slot, v0, tb) := by
  have hno : ∀ s acc, (∀ x, ¬ WholeAt (d.take (2 * p)) (s * p) x) → slotD decS d p acc s = acc := fun s acc hn => by
    unfold slotD
    split
    · rename_i x hx
      exact absurd (whole_iff.1 hx) (hn x)
    · rfl
  have hyes : ∀ s acc x v t, WholeAt (d.take (2 * p)) (s * p) x → acc.1 < x.stamp → decS x.data = some (v, t) → slotD decS d p acc s = (x.stamp, s, v, t) := fun s acc x v t hw hl hd => by
    unfold slotD
    rw [whole_iff.2 hw]
    simp only [hl, hd, if_true]
  have hsmall : ∀ s (acc : Nat × Nat × Nat × T), (∀ y, WholeAt (d.take (2 * p)) (s * p) y → y.stamp < acc.1) → slotD decS d p acc s = acc := fun s acc hn => by
    unfold slotD
    split
    · rename_i x hx
      rw [if_neg (by have := hn x (whole_iff.1 hx); omega)]
    · rfl
  have hle : ∀ s (acc : Nat × Nat × Nat × T), (slotD decS d p acc s).1 = acc.1 ∨ ∃ y, WholeAt (d.take (2 * p)) (s * p) y ∧ (slotD decS d p acc s).1 = y.stamp := fun s acc => by
    unfold slotD
    split
    · rename_i x hx
      split
      · split
        · exact .inr ⟨x, whole_iff.1 hx, rfl⟩
        · exact .inl rfl
      · exact .inl rfl
    · exact .inl rfl
  unfold slotsD
  rcases h with ⟨rfl, rfl, rfl, rfl, hn⟩ | ⟨hs, ⟨x, hw, rfl, hd, -⟩, ho⟩
  · rw [hno 0 _ (fun x => hn 0 x (by omega)), hno 1 _ (fun x => hn 1 x (by omega))]
  · have h0 : x.stamp ≠ 0 := hw.elim fun n h => h.2.1
    obtain rfl | rfl : slot = 0 ∨ slot = 1 := by omega
    · rw [hyes 0 _ x v0 tb hw (by show 0 < x.stamp; omega) hd, hsmall 1 _ (fun y hy => ho y hy)]
    · refine hyes 1 _ x v0 tb hw ?_ hd
      rcases hle 0 (0, 0, 0, t0) with e | ⟨y, hy, e⟩
      · rw [e]; show 0 < x.stamp; omega
      · rw [e]; exact ho y hy
/-- a start finds what the disk holds -/
theorem chain_found {d : List Part} {p : Nat} {L : List (Nat × Thing)} {s0 : Nat} (hall : ∀ i x, 2 * p ≤ i → WholeAt d i x → (i, x) ∈ L ∨ x.stamp < s0) (hv : ∀ y ∈ L, ∀ z ∈ L, ∀ k o o', decD y.2.data = some (k, o) → decD z.2.data = some (k, o') → y = z)
    {s v pos s' v' pos' : Nat} {t t' : T} {l : List (Nat × Thing)} (h : Chain decD app d s v t pos l s' v' t' pos') (h0 : s0 ≤ s) (hp : 2 * p ≤ pos) (hsub : ∀ y ∈ l, y ∈ L) (hend : ∀ y ∈ L, ∀ k o, decD y.2.data = some (k, o) → k ≤ v') (f : Nat) (hf : l.length < f) :
    chainD app (pickD decD d (deltaPlaces d p)) f s v t pos = (v', t', pos') := by
  induction h generalizing f with
  | nil s v t pos =>
    cases f with
    | zero => omega
    | succ f =>
      unfold chainD
      split
      · rename_i st to o hpk
        rcases (pick_spec (decD := decD) (deltaPlaces d p) none).1 _ hpk with e | ⟨i, hi, x, o', hw, hd, e⟩
        · cases e
        · cases e
          rcases hall i x (places_ge hi) hw with hm | hlt
          · have := hend _ hm _ _ hd
            omega
          · rw [if_pos (by omega)]
      · rfl
  | @cons s v pos s' v' pos' t t' l x o hw hd hs h ih =>
    cases f with
    | zero => omega
    | succ f =>
      have hlt := hw.lt
      have hpick : pickD decD d (deltaPlaces d p) (v + 1) = some (x.stamp, x.to, o) := by
        obtain ⟨r, hr, hle⟩ := (pick_spec (decD := decD) (d := d) (ver := v + 1) (deltaPlaces d p) none).2.1 pos (mem_places hp hw) x o hw hd
        rcases (pick_spec (decD := decD) (deltaPlaces d p) none).1 _ hr with e | ⟨i, hi, x', o', hw', hd', e⟩
        · cases e
        · subst e
          rcases hall i x' (places_ge hi) hw' with hm | hlt'
          · have := hv _ (hsub _ List.mem_cons_self) _ hm _ _ _ hd hd'
            cases this
            rw [hd] at hd'
            cases hd'
            exact hr
          · simp only at hle
            omega
      unfold chainD
      simp only [hpick]
      rw [if_neg (by omega)]
      exact ih (by omega) (by omega) (fun y hy => hsub y (List.mem_cons_of_mem _ hy)) hend f (by simp at hf; omega)
theorem Chain.inj {d : List Part} {s v pos s' v' pos' : Nat} {t t' : T} {l : List (Nat × Thing)} (h : Chain decD app d s v t pos l s' v' t' pos') : ∀ y ∈ l, ∀ z ∈ l, ∀ k o o', decD y.2.data = some (k, o) → decD z.2.data = some (k, o') → y = z := by
  induction h with
  | nil s v t pos => exact fun y hy => by cases hy
  | @cons s v pos s' v' pos' t t' l x o hw hd hs h ih =>
    intro y hy z hz k o1 o2 h1 h2
    rcases List.mem_cons.1 hy with rfl | hy' <;> rcases List.mem_cons.1 hz with rfl | hz'
    · rfl
    · obtain ⟨k', o', g1, g2, g3⟩ := h.ver z hz'
      rw [g3] at h2
      rw [hd] at h1
      cases h1; cases h2
      omega
    · obtain ⟨k', o', g1, g2, g3⟩ := h.ver y hy'
      rw [g3] at h1
      rw [hd] at h2
      cases h1; cases h2
      omega
    · exact ih y hy' z hz' k o1 o2 h1 h2
theorem DiskInv.found {t0 : T} {d : List Part} {p slot v : Nat} {t : T} {next : Nat} (h : DiskInv decS decD app t0 d p slot v t next) :
    ∃ s0 v0 tb, slotsD decS d p t0 = (s0, slot, v0, tb) ∧ ∀ f, d.length < f → chainD app (pickD decD d (deltaPlaces d p)) f s0 v0 tb (2 * p) = (v, t, next) := by
  obtain ⟨s0, v0, tb, l, sN, hb, hc, hall⟩ := h
  refine ⟨s0, v0, tb, slots_base hb, fun f hf => chain_found hall hc.inj hc (Nat.le_refl _) (Nat.le_refl _) (fun _ h => h) (fun y hy k o hd => ?_) f ?_⟩
  · obtain ⟨k', o', -, g2, g3⟩ := hc.ver y hy
    rw [hd] at g3
    cases g3
    exact g2
  · refine Nat.lt_of_le_of_lt ?_ hf
    -- places are apart
    have key : ∀ {s v pos s' v' pos' : Nat} {t t' : T} {l : List (Nat × Thing)}, Chain decD app d s v t pos l s' v' t' pos' → l.length + pos ≤ pos' ∧ (l = [] ∨ pos' ≤ d.length) := by
      intro s v pos s' v' pos' t t' l h
      induction h with
      | nil => exact ⟨by simp, .inl rfl⟩
      | cons x o hw hd hs h ih =>
        have := hw.lt
        refine ⟨by rw [List.length_cons]; omega, .inr ?_⟩
        rcases ih.2 with rfl | e
        · cases h
          exact this.2
        · exact e
    obtain ⟨k1, k2⟩ := key hc
    rcases k2 with rfl | k2
    · exact Nat.zero_le _
    · omega
theorem DiskInv.next_ge {t0 : T} {d : List Part} {p slot v : Nat} {t : T} {next : Nat} (h : DiskInv decS decD app t0 d p slot v t next) : 2 * p ≤ next ∧ slot < 2 := by
  obtain ⟨s0, v0, tb, l, sN, hb, hc, -⟩ := h
  refine ⟨hc.pos.1, ?_⟩
  rcases hb with ⟨-, -, -, rfl, -⟩ | ⟨h, -⟩
  · omega
  · exact h
theorem BaseAt.stamp {d : List Part} {p slot s0 v0 : Nat} {tb t0 : T} (h : BaseAt decS d p slot s0 v0 tb t0) {s : Nat} (hfr : ∀ b ∈ d, b.stamp < s) (hs : 0 < s) : s0 < s := by
  rcases h with ⟨rfl, -⟩ | ⟨-, ⟨x, hw, rfl, -, -⟩, -⟩
  · exact hs
  · obtain ⟨b, hb, e⟩ := hw.stamp_mem
    rw [← e]
    exact hfr b (List.mem_of_mem_take hb)
theorem BaseAt.congr {d d' : List Part} {p slot s0 v0 : Nat} {tb t0 : T} (h : BaseAt decS d p slot s0 v0 tb t0) (e : d'.take (2 * p) = d.take (2 * p)) : BaseAt decS d' p slot s0 v0 tb t0 := by
  unfold BaseAt at h ⊢
  rw [e]
  exact h
theorem Mixed.take_eq {d d' : List Part} {at' : Nat} {ps : List Part} (h : Mixed d d' at' ps) {m : Nat} (hm : m ≤ at') : d'.take m = d.take m := by
  refine List.ext_getElem? fun j => ?_
  by_cases hj : j < m
  · rw [List.getElem?_take_of_lt hj, List.getElem?_take_of_lt hj, h.off (.inl (by omega))]
  · rw [List.getElem?_eq_none (by rw [List.length_take]; omega), List.getElem?_eq_none (by rw [List.length_take]; omega)]
/-- a delta is written behind the others -/
theorem DiskInv.delta {t0 : T} {d d' : List Part} {p slot v : Nat} {t : T} {next s : Nat} {ps : List Part} {data : List UInt8} {o : O} (h : DiskInv decS decD app t0 d p slot v t next) (hm : Mixed d d' next ps) (hn : NewParts s ps data) (hfr : ∀ b ∈ d, b.stamp < s) (hs : 0 < s)
    (hd : decD data = some (v + 1, o)) : (FullAt d' next ps → DiskInv decS decD app t0 d' p slot (v + 1) (app t o) (next + ps.length)) ∧ (¬ FullAt d' next ps → DiskInv decS decD app t0 d' p slot v t next) := by
  have hge := h.next_ge.1
  obtain ⟨s0, v0, tb, l, sN, hb, hc, hall⟩ := h
  have hb' := hb.congr (hm.take_eq hge)
  have hc' := hc.congr (d' := d') fun j h1 h2 => hm.off (.inl h2)
  have hs0 := hb.stamp hfr hs
  have hsN : sN < s := by
    have hp := hc.pos
    rcases List.eq_nil_or_concat l with rfl | ⟨l', y, rfl⟩
    · cases hc; exact hs0
    · have : ∀ {s v pos s' v' pos' : Nat} {t t' : T} {l : List (Nat × Thing)}, Chain decD app d s v t pos l s' v' t' pos' → l ≠ [] → ∃ y ∈ l, y.2.stamp = s' := by
        intro s v pos s' v' pos' t t' l h
        induction h with
        | nil => exact fun h => absurd rfl h
        | @cons s v pos s' v' pos' t t' l x o hw hd hs h ih =>
          intro _
          cases l with
          | nil =>
            cases h
            exact ⟨_, List.mem_cons_self, rfl⟩
          | cons z l =>
            obtain ⟨y, hy, e⟩ := ih (by simp)
            exact ⟨y, List.mem_cons_of_mem _ hy, e⟩
      obtain ⟨y, hy, e⟩ := this hc (by simp)
      obtain ⟨-, -, -, -, hw⟩ := hp.2.2.2 y hy
      obtain ⟨b, hbm, e2⟩ := hw.stamp_mem
      have := hfr b hbm
      omega
  refine ⟨fun hf => ?_, fun hf => ?_⟩
  · refine ⟨s0, v0, tb, _, _, hb', hc'.snoc ⟨s, data, next + ps.length⟩ o (whole_full hn (by omega) hf) hd hsN, fun i x hi hw => ?_⟩
    rcases whole_mixed hm hn hfr hw with ⟨rfl, rfl, -⟩ | ⟨hw', -, -⟩
    · exact .inl (by simp)
    · exact (hall i x hi hw').imp (fun h => List.mem_append_left _ h) id
  · refine ⟨s0, v0, tb, l, sN, hb', hc', fun i x hi hw => ?_⟩
    rcases whole_mixed hm hn hfr hw with ⟨rfl, rfl, hf'⟩ | ⟨hw', -, -⟩
    · exact absurd hf' hf
    · exact hall i x hi hw'
/-- a state is written into the other place -/
theorem DiskInv.state {t0 : T} {d d' : List Part} {p slot v : Nat} {t : T} {next s : Nat} {ps : List Part} {data : List UInt8} {v' : Nat} {t' : T} (h : DiskInv decS decD app t0 d p slot v t next) (hm : Mixed d d' ((1 - slot) * p) ps) (hn : NewParts s ps data) (hp : ps.length ≤ p) (hl : 2 * p ≤ d.length)
    (hfr : ∀ b ∈ d, b.stamp < s) (hs : 0 < s) (hd : decS data = some (v', t')) : (FullAt d' ((1 - slot) * p) ps → DiskInv decS decD app t0 d' p (1 - slot) v' t' (2 * p)) ∧ (¬ FullAt d' ((1 - slot) * p) ps → DiskInv decS decD app t0 d' p slot v t next) := by
  have hsl := h.next_ge.2
  obtain ⟨s0, v0, tb, l, sN, hb, hc, hall⟩ := h
  have hle : (1 - slot) * p + p ≤ 2 * p := by
    obtain rfl | rfl : slot = 0 ∨ slot = 1 := by omega
    · omega
    · omega
  have hoff : ∀ j, 2 * p ≤ j → d'[j]? = d[j]? := fun j hj => hm.off (.inr (by omega))
  have hc' := hc.congr (d' := d') fun j h1 h2 => hoff j h1
  have hw2 : ∀ i x, 2 * p ≤ i → WholeAt d' i x → WholeAt d i x := fun i x hi hw => hw.congr fun j h1 _ => (hoff j (by omega)).symm
  have hs0 := hb.stamp hfr hs
  have hfr2 : ∀ b ∈ d.take (2 * p), b.stamp < s := fun b hb => hfr b (List.mem_of_mem_take hb)
  have hmt := hm.take (2 * p)
  have hpart : slot * p + p ≤ (1 - slot) * p ∨ (1 - slot) * p + p ≤ slot * p ∨ p = 0 := by
    obtain rfl | rfl : slot = 0 ∨ slot = 1 := by omega
    · left; omega
    · right; left; omega
  have hp0 := hn.pos
  have hdisj : ∀ j, slot * p ≤ j → j < slot * p + p → d'[j]? = d[j]? := fun j h1 h2 => hm.off (by omega)
  -- things in the slots keep to their places when p bounds them: a thing in a slot may reach on
  refine ⟨fun hf => ?_, fun hf => ?_⟩
  · have hft : FullAt (d'.take (2 * p)) ((1 - slot) * p) ps := fun i hi => by
      rw [List.getElem?_take_of_lt (by omega)]
      exact hf i hi
    have hnew := whole_full hn (by omega : s ≠ 0) hft
    refine ⟨s, v', t', [], s, .inr ⟨by omega, ⟨_, hnew, rfl, hd, by show _ + ps.length ≤ _; omega⟩, fun y hy => ?_⟩, .nil _ _ _ _, fun i x hi hw => .inr ?_⟩
    · rw [show 1 - (1 - slot) = slot by omega] at hy
      rcases whole_mixed hmt hn hfr2 hy with ⟨e, -, -⟩ | ⟨-, hlt, -⟩
      · omega
      · exact hlt
    · obtain ⟨b, hbm, e⟩ := (hw2 i x hi hw).stamp_mem
      rw [← e]
      exact hfr b hbm
  · have hft : ¬ FullAt (d'.take (2 * p)) ((1 - slot) * p) ps := fun h => hf fun i hi => by
      have := h i hi
      rw [List.getElem?_take_of_lt (by omega)] at this
      exact this
    refine ⟨s0, v0, tb, l, sN, ?_, hc', fun i x hi hw => hall i x hi (hw2 i x hi hw)⟩
    rcases hb with ⟨h1, h2, h3, h4, hno⟩ | ⟨h1, ⟨x, hw, e1, e2, e3⟩, ho⟩
    · refine .inl ⟨h1, h2, h3, h4, fun s' x hs' hw => ?_⟩
      rcases whole_mixed hmt hn hfr2 hw with ⟨-, -, hf'⟩ | ⟨hw', -, -⟩
      · exact hft hf'
      · exact hno s' x hs' hw'
    · refine .inr ⟨h1, ⟨x, ?_, e1, e2, e3⟩, fun y hy => ?_⟩
      · refine hw.congr fun j g1 g2 => ?_
        have := hw.lt.2
        rw [List.length_take] at this
        rw [List.getElem?_take_of_lt (by omega), List.getElem?_take_of_lt (by omega)]
        exact hdisj j g1 (by omega)
      · rcases whole_mixed hmt hn hfr2 hy with ⟨-, -, hf'⟩ | ⟨hw', -, -⟩
        · exact absurd hf' hft
        · exact ho y hw'
end
end Go.Proofs.YtkkfmkhbdoeglabGreatDoor
