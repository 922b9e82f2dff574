/- A part of what is proved here: lemmas and contracts of single functions. No condition but those that each names. -/
import Derived.Test.YtkkfmkhbdoeglabGreatDoorG12
namespace Go.Proofs.YtkkfmkhbdoeglabGreatDoor
/-- an operation on a datapath: a key dropped (none), or put -/
abbrev DOp := K × Option (List UInt8)
def dropL (h w : List E) : List E := h.filter fun x => (getS x.1 w).isNone
def putL (h w : List E) : List E := w.filter fun x => !decide (x ∈ h)
def dropOps (l : List E) : List DOp := l.map fun x => (x.1, none)
def putOps (l : List E) : List DOp := l.map fun x => (x.1, some x.2)
def opsB (h w : List E) : List DOp := dropOps (dropL h w) ++ putOps (putL h w)
def doS (S : List E) (o : DOp) : List E := match o.2 with
  | none => dropS o.1 S
  | some v => putS o.1 v S
def doneS (S : List E) (os : List DOp) : List E := os.foldl doS S
theorem doneS_append (S : List E) (os us : List DOp) : doneS S (os ++ us) = doneS (doneS S os) us := List.foldl_append
theorem sorted_do {S : List E} (o : DOp) (h : SortedE S) : SortedE (doS S o) := by
  unfold doS
  split
  · exact sorted_drop _ h
  · exact sorted_put _ _ h
theorem sorted_done : ∀ {S : List E} (os : List DOp), SortedE S → SortedE (doneS S os)
  | _, [], h => h
  | _, o :: os, h => sorted_done os (sorted_do o h)
theorem mem_drops : ∀ (l : List E) (S : List E) (x : E), x ∈ doneS S (dropOps l) ↔ x ∈ S ∧ x.1 ∉ l.map (·.1)
  | [], S, x => by simp [doneS, dropOps]
  | y :: l, S, x => by
    have ih := mem_drops l (dropS y.1 S) x
    rw [mem_drop] at ih
    simp only [List.map_cons, List.mem_cons, not_or]
    exact ih.trans ⟨fun h => ⟨h.1.1, h.1.2, h.2⟩, fun h => ⟨⟨h.1, h.2.1⟩, h.2.2⟩⟩
theorem mem_puts : ∀ (l : List E) (S : List E) (x : E), (l.map (·.1)).Nodup → (x ∈ doneS S (putOps l) ↔ x ∈ l ∨ (x ∈ S ∧ x.1 ∉ l.map (·.1)))
  | [], S, x, _ => by simp [doneS, putOps]
  | y :: l, S, x, hn => by
    rw [List.map_cons, List.nodup_cons] at hn
    have ih := mem_puts l (putS y.1 y.2 S) x hn.2
    rw [mem_put] at ih
    have e : doneS S (putOps (y :: l)) = doneS (putS y.1 y.2 S) (putOps l) := rfl
    rw [e, ih]
    simp only [List.map_cons, List.mem_cons, not_or]
    constructor
    · rintro (h | ⟨(h | h), h2⟩)
      · exact .inl (.inr h)
      · exact .inl (.inl h)
      · exact .inr ⟨h.1, h.2, h2⟩
    · rintro ((h | h) | ⟨h1, h2, h3⟩)
      · exact .inr ⟨.inl h, by rw [h]; exact hn.1⟩
      · exact .inl h
      · exact .inr ⟨.inr ⟨h1, h2⟩, h3⟩
theorem SortedE.filter {S : List E} (h : SortedE S) (p : E → Bool) : SortedE (S.filter p) := List.Pairwise.filter p h
theorem SortedE.take {S : List E} (h : SortedE S) (n : Nat) : SortedE (S.take n) := h.sublist (List.take_sublist n S)
theorem SortedE.drop {S : List E} (h : SortedE S) (n : Nat) : SortedE (S.drop n) := h.sublist (List.drop_sublist n S)
theorem SortedE.inj {S : List E} (h : SortedE S) {x y : E} (hx : x ∈ S) (hy : y ∈ S) (e : x.1 = y.1) : x = y := by
  have h1 := (get_iff h.keys x.1 x.2).2 hx
  have h2 := (get_iff h.keys y.1 y.2).2 hy
  rw [e, h2] at h1
  exact Prod.ext e (Option.some.inj h1).symm
/-- what lies behind the first n of sorted entries -/
theorem mem_rest {S : List E} (h : SortedE S) (n : Nat) (x : E) : x ∈ S.drop n ↔ x ∈ S ∧ x.1 ∉ (S.take n).map (·.1) := by
  have hn : (S.take n ++ S.drop n).Nodup := by rw [List.take_append_drop]; exact h.nodup
  constructor
  · intro hx
    have hS := List.mem_of_mem_drop hx
    refine ⟨hS, fun hk => ?_⟩
    obtain ⟨y, hy, e⟩ := List.mem_map.1 hk
    have := h.inj (List.mem_of_mem_take hy) hS e
    subst this
    exact (List.nodup_append.1 hn).2.2 _ hy _ hx rfl
  · rintro ⟨hS, hk⟩
    rw [← List.take_append_drop n S, List.mem_append] at hS
    rcases hS with h1 | h1
    · exact absurd (List.mem_map.2 ⟨x, h1, rfl⟩) hk
    · exact h1
theorem mem_dropL {h w : List E} (x : E) : x ∈ dropL h w ↔ x ∈ h ∧ x.1 ∉ w.map (·.1) := by
  unfold dropL
  rw [List.mem_filter, Option.isNone_iff_eq_none, get_none]
  refine and_congr_right fun _ => ⟨fun H hk => ?_, fun H y hy e => H (List.mem_map.2 ⟨y, hy, e⟩)⟩
  obtain ⟨y, hy, e⟩ := List.mem_map.1 hk
  exact H y hy e
theorem mem_putL {h w : List E} (x : E) : x ∈ putL h w ↔ x ∈ w ∧ x ∉ h := by
  unfold putL
  rw [List.mem_filter]
  simp
theorem dropOps_take (l : List E) (n : Nat) : (dropOps l).take n = dropOps (l.take n) := (List.map_take ..).symm
theorem putOps_take (l : List E) (n : Nat) : (putOps l).take n = putOps (l.take n) := (List.map_take ..).symm
theorem dropOps_drop (l : List E) (n : Nat) : (dropOps l).drop n = dropOps (l.drop n) := (List.map_drop ..).symm
theorem putOps_drop (l : List E) (n : Nat) : (putOps l).drop n = putOps (l.drop n) := (List.map_drop ..).symm
theorem dropOps_length (l : List E) : (dropOps l).length = l.length := List.length_map _
theorem putOps_length (l : List E) : (putOps l).length = l.length := List.length_map _
/-- the entries behind the first n -/
theorem mem_after {h w : List E} (hw : SortedE w) (n : Nat) (x : E) : x ∈ doneS h ((opsB h w).take n) ↔
    x ∈ (putL h w).take (n - (dropL h w).length) ∨ (x ∈ h ∧ x.1 ∉ ((dropL h w).take n).map (·.1) ∧ x.1 ∉ ((putL h w).take (n - (dropL h w).length)).map (·.1)) := by
  unfold opsB
  rw [List.take_append, dropOps_take, dropOps_length, putOps_take, doneS_append, mem_puts _ _ _ ((show SortedE (putL h w) from hw.filter _).take _).keys, mem_drops]
  rw [and_assoc]
/-- behind the first n the rest is left to be done -/
theorem ops_rest {h w : List E} (hh : SortedE h) (hw : SortedE w) (n : Nat) : opsB (doneS h ((opsB h w).take n)) w = (opsB h w).drop n := by
  have hst := sorted_done ((opsB h w).take n) hh
  have hD : SortedE (dropL h w) := hh.filter _
  have hP : SortedE (putL h w) := hw.filter _
  have e1 : dropL (doneS h ((opsB h w).take n)) w = (dropL h w).drop n := by
    refine SortedE.ext (hst.filter _) (hD.drop n) fun x => ?_
    rw [show (x ∈ dropL (doneS h ((opsB h w).take n)) w ↔ _) from mem_dropL x, mem_after hw, mem_rest hD, mem_dropL]
    constructor
    · rintro ⟨h1 | ⟨h1, h2, h3⟩, h4⟩
      · exact absurd (List.mem_map.2 ⟨x, ((mem_putL x).1 (List.mem_of_mem_take h1)).1, rfl⟩) h4
      · exact ⟨⟨h1, h4⟩, h2⟩
    · rintro ⟨⟨h1, h4⟩, h2⟩
      refine ⟨.inr ⟨h1, h2, fun hk => h4 ?_⟩, h4⟩
      obtain ⟨y, hy, e⟩ := List.mem_map.1 hk
      exact List.mem_map.2 ⟨y, ((mem_putL y).1 (List.mem_of_mem_take hy)).1, e⟩
  have e2 : putL (doneS h ((opsB h w).take n)) w = (putL h w).drop (n - (dropL h w).length) := by
    refine SortedE.ext (hw.filter _) (hP.drop _) fun x => ?_
    rw [show (x ∈ putL (doneS h ((opsB h w).take n)) w ↔ _) from mem_putL x, mem_after hw, mem_rest hP, mem_putL]
    constructor
    · rintro ⟨h1, h2⟩
      rw [not_or] at h2
      have hxh : x ∉ h := fun hx => h2.2 ⟨hx, fun hk => ?_, fun hk => ?_⟩
      · refine ⟨⟨h1, hxh⟩, fun hk => ?_⟩
        obtain ⟨y, hy, e⟩ := List.mem_map.1 hk
        exact h2.1 (by rw [← hw.inj ((mem_putL y).1 (List.mem_of_mem_take hy)).1 h1 e]; exact hy)
      · obtain ⟨y, hy, e⟩ := List.mem_map.1 hk
        exact ((mem_dropL y).1 (List.mem_of_mem_take hy)).2 (by rw [e]; exact List.mem_map.2 ⟨x, h1, rfl⟩)
      · obtain ⟨y, hy, e⟩ := List.mem_map.1 hk
        have hy' := (mem_putL y).1 (List.mem_of_mem_take hy)
        have := hw.inj hy'.1 h1 e
        subst this
        exact hy'.2 hx
    · rintro ⟨⟨h1, h2⟩, h3⟩
      refine ⟨h1, fun hk => ?_⟩
      rcases hk with hk | hk
      · exact h3 (List.mem_map.2 ⟨x, hk, rfl⟩)
      · exact h2 hk.1
  unfold opsB
  rw [show dropL (doneS h ((dropOps (dropL h w) ++ putOps (putL h w)).take n)) w = _ from e1, show putL (doneS h ((dropOps (dropL h w) ++ putOps (putL h w)).take n)) w = _ from e2, List.drop_append, dropOps_drop, dropOps_length, putOps_drop]
/-- all of it brings the entries about -/
theorem ops_all {h w : List E} (hh : SortedE h) (hw : SortedE w) : doneS h (opsB h w) = w := by
  refine SortedE.ext (sorted_done _ hh) hw fun x => ?_
  have := mem_after (h := h) hw (opsB h w).length x
  rw [List.take_length] at this
  rw [this]
  have hl : (opsB h w).length = (dropL h w).length + (putL h w).length := by unfold opsB; rw [List.length_append, dropOps_length, putOps_length]
  rw [List.take_of_length_le (by omega), List.take_of_length_le (by omega)]
  constructor
  · rintro (h1 | ⟨h1, h2, h3⟩)
    · exact ((mem_putL x).1 h1).1
    · by_cases hk : x.1 ∈ w.map (·.1)
      · obtain ⟨y, hy, e⟩ := List.mem_map.1 hk
        by_cases hyh : y ∈ h
        · rw [← hh.inj hyh h1 e]; exact hy
        · exact absurd (List.mem_map.2 ⟨y, (mem_putL y).2 ⟨hy, hyh⟩, e⟩) h3
      · exact absurd (List.mem_map.2 ⟨x, (mem_dropL x).2 ⟨h1, hk⟩, rfl⟩) h2
  · intro hx
    by_cases hxh : x ∈ h
    · refine .inr ⟨hxh, fun hk => ?_, fun hk => ?_⟩
      · obtain ⟨y, hy, e⟩ := List.mem_map.1 hk
        exact ((mem_dropL y).1 hy).2 (by rw [e]; exact List.mem_map.2 ⟨x, hx, rfl⟩)
      · obtain ⟨y, hy, e⟩ := List.mem_map.1 hk
        have hy' := (mem_putL y).1 hy
        have := hw.inj hy'.1 hx e
        subst this
        exact hy'.2 hxh
    · exact .inl ((mem_putL x).2 ⟨hx, hxh⟩)
theorem length_subG {α : Type} {l m : List α} (hn : l.Nodup) (h : ∀ x ∈ l, x ∈ m) : l.length ≤ m.length := by
  classical
  induction l generalizing m with
  | nil => exact Nat.zero_le _
  | cons x l ih =>
    rw [List.nodup_cons] at hn
    have hp := (List.perm_cons_erase (h x (by simp))).length_eq
    have := ih (m := m.erase x) hn.2 (fun y hy => (List.mem_erase_of_ne (fun e => hn.1 (by rw [← e]; exact hy))).2 (h y (List.mem_cons_of_mem _ hy)))
    simp only [List.length_cons] at hp ⊢
    omega
theorem countS_keys (t : Int) (S : List E) : countS t S = ((S.map (·.1)).filter fun k => decide (k.1 = t)).length := by
  unfold countS
  rw [List.countP_eq_length_filter, List.filter_map, List.length_map]
  rfl
theorem countS_le {S T : List E} (hS : SortedE S) (h : ∀ x ∈ S, x.1 ∈ T.map (·.1)) (t : Int) : countS t S ≤ countS t T := by
  rw [countS_keys, countS_keys]
  refine length_subG (hS.keys.filter _) fun k hk => ?_
  rw [List.mem_filter] at hk ⊢
  obtain ⟨x, hx, rfl⟩ := List.mem_map.1 hk.1
  exact ⟨h x hx, hk.2⟩
theorem countS_put {S : List E} {k : K} {v : List UInt8} (hS : SortedE S) (hk : getS k S = none) : countS k.1 (putS k v S) = countS k.1 S + 1 := by
  have hp : (putS k v S).Perm (S ++ [(k, v)]) := by
    refine (List.perm_ext_iff_of_nodup (sorted_put k v hS).nodup ?_).2 fun x => ?_
    · rw [List.nodup_append]
      refine ⟨hS.nodup, by simp, fun a ha b hb e => ?_⟩
      rw [List.mem_singleton] at hb
      subst hb e
      exact (get_none k).1 hk _ ha rfl
    · rw [mem_put, List.mem_append, List.mem_singleton]
      constructor
      · rintro (h | h)
        · exact .inr h
        · exact .inl h.1
      · rintro (h | h)
        · exact .inr ⟨h, (get_none k).1 hk x h⟩
        · exact .inl h
  rw [show countS k.1 (putS k v S) = countS k.1 (S ++ [(k, v)]) from hp.countP_eq _]
  unfold countS
  rw [List.countP_append]
  simp
/-- an entry that is put finds its key, or room -/
theorem ops_room {h w : List E} {room : Int → Nat} (hh : SortedE h) (hw : SortedE w) (hc : ∀ t, countS t w ≤ room t) {n : Nat} {k : K} {v : List UInt8} (ho : (opsB h w)[n]? = some (k, some v)) :
    (getS k (doneS h ((opsB h w).take n))).isSome = true ∨ countS k.1 (doneS h ((opsB h w).take n)) < room k.1 := by
  have hst := sorted_done ((opsB h w).take n) hh
  have hge : (dropL h w).length ≤ n := by
    refine Nat.le_of_not_lt fun hlt => ?_
    unfold opsB dropOps at ho
    rw [List.getElem?_append_left (by rw [List.length_map]; exact hlt), List.getElem?_map, List.getElem?_eq_getElem hlt] at ho
    cases ho
  have hP : (putL h w)[n - (dropL h w).length]? = some (k, v) := by
    unfold opsB putOps at ho
    rw [List.getElem?_append_right (by rw [dropOps_length]; exact hge), List.getElem?_map, dropOps_length] at ho
    cases hp : (putL h w)[n - (dropL h w).length]? with
    | none => rw [hp] at ho; cases ho
    | some x => rw [hp] at ho; cases ho; rfl
  have hkw : k ∈ w.map (·.1) := by
    have hm : (k, v) ∈ putL h w := List.mem_of_getElem? hP
    exact List.mem_map.2 ⟨(k, v), ((mem_putL _).1 hm).1, rfl⟩
  have hsub : ∀ x ∈ doneS h ((opsB h w).take n), x.1 ∈ w.map (·.1) := fun x hx => by
    rcases (mem_after hw n x).1 hx with h1 | ⟨h1, h2, -⟩
    · exact List.mem_map.2 ⟨x, ((mem_putL x).1 (List.mem_of_mem_take h1)).1, rfl⟩
    · rw [List.take_of_length_le hge] at h2
      refine Classical.byContradiction fun hk => h2 (List.mem_map.2 ⟨x, (mem_dropL x).2 ⟨h1, hk⟩, rfl⟩)
  cases hg : getS k (doneS h ((opsB h w).take n)) with
  | some _ => exact .inl rfl
  | none =>
    right
    have h1 := countS_put (v := v) hst hg
    have h2 := countS_le (sorted_put k v hst) (fun x hx => by
      rcases (mem_put k v _ x).1 hx with rfl | ⟨hx, -⟩
      · exact hkw
      · exact hsub x hx) k.1
    have h3 := hc k.1
    omega
/-- what of a host a datapath knows: how many operations are left, whether it has stopped, how much room there is, its entries, its log -/
structure DpS where
  left : Int
  dead : Bool
  room : Nat → Int
  S : List E
  log : List (List UInt8)
/-- one operation more -/
def DpS.stop (d : DpS) : DpS := { d with left := if 0 < d.left then d.left - 1 else d.left, dead := d.dead || decide (d.left = 0) }
/-- how much room a table has, as Room answers -/
def DpS.roomOf (d : DpS) (t : Int) : Int := if 0 ≤ t ∧ t < 3 then d.room t.toNat else 0
def byteI (t : Int) : UInt8 := UInt8.ofNat (t % 256).toNat
def dropText (k : K) : List UInt8 := [100, 114, 111, 112, 32] ++ [byteI k.1] ++ k.2
def putText (k : K) (v : List UInt8) : List UInt8 := [112, 117, 116, 32] ++ [byteI k.1] ++ k.2 ++ [61] ++ v
def noRoomText : List UInt8 := [110, 111, 32, 114, 111, 111, 109]
def textOf (o : DOp) : List UInt8 := match o.2 with
  | none => dropText o.1
  | some v => putText o.1 v
def DpS.hasRoom (d : DpS) (k : K) : Bool := (getS k d.S).isSome || decide ((countS k.1 d.S : Int) < d.roomOf k.1)
def DpS.put (d : DpS) (k : K) (v : List UInt8) : DpS :=
  if d.stop.dead then d.stop
  else if d.hasRoom k then { d.stop with S := putS k v d.S, log := d.log ++ [putText k v] }
  else { d.stop with log := d.log ++ [putText k v] ++ [noRoomText] }
def DpS.drop (d : DpS) (k : K) : DpS := if d.stop.dead then d.stop else { d.stop with S := dropS k d.S, log := d.log ++ [dropText k] }
def DpS.step (d : DpS) (o : DOp) : DpS := match o.2 with
  | none => d.drop o.1
  | some v => d.put o.1 v
def DpS.run (d : DpS) (os : List DOp) : DpS := os.foldl DpS.step d
theorem DpS.run_snoc (d : DpS) (os : List DOp) (o : DOp) : d.run (os ++ [o]) = (d.run os).step o := List.foldl_append
/-- a datapath that does as it is told: what it is behind the first j operations of a reconciling (n: how many are left; below 0: all) -/
def DpS.upTo (d : DpS) (os : List DOp) (j : Nat) : DpS :=
  if d.left < 0 then { d with S := doneS d.S (os.take j), log := d.log ++ (os.take j).map textOf }
  else { d with left := d.left - (min d.left.toNat j : Nat), dead := decide (d.left < j), S := doneS d.S (os.take (min d.left.toNat j)), log := d.log ++ (os.take (min d.left.toNat j)).map textOf }
theorem take_snoc {α : Type} (l : List α) (j : Nat) {x : α} (h : l[j]? = some x) : l.take (j + 1) = l.take j ++ [x] := by
  obtain ⟨hj, rfl⟩ := List.getElem?_eq_some_iff.1 h
  exact List.take_succ_eq_append_getElem hj
theorem DpS.step_good (d : DpS) (o : DOp) (hs : d.stop.dead = false) (hr : ∀ v, o.2 = some v → d.hasRoom o.1 = true) : d.step o = { d.stop with S := doS d.S o, log := d.log ++ [textOf o] } := by
  obtain ⟨k, v⟩ := o
  cases v with
  | none =>
    unfold DpS.step DpS.drop doS textOf
    simp only [hs]
    rfl
  | some v =>
    have := hr v rfl
    unfold DpS.step DpS.put doS textOf
    simp only [hs, this]
    rfl
theorem DpS.step_dead (d : DpS) (o : DOp) (hs : d.stop.dead = true) : d.step o = d.stop := by
  obtain ⟨k, v⟩ := o
  cases v with
  | none =>
    unfold DpS.step DpS.drop
    simp only [hs]
    rfl
  | some v =>
    unfold DpS.step DpS.put
    simp only [hs]
    rfl
theorem doneS_snoc (S : List E) (os : List DOp) (o : DOp) : doneS S (os ++ [o]) = doS (doneS S os) o := List.foldl_append
theorem DpS.run_upTo (d : DpS) (w : List E) (hd : d.dead = false) (hh : SortedE d.S) (hw : SortedE w) (hk : ∀ x ∈ w, 0 ≤ x.1.1 ∧ x.1.1 < 3) (hc : ∀ t : Nat, t < 3 → (countS t w : Int) ≤ d.room t) :
    ∀ j, j ≤ (opsB d.S w).length → d.run ((opsB d.S w).take j) = d.upTo (opsB d.S w) j
  | 0, _ => by
    unfold DpS.upTo
    simp only [List.take_zero, Nat.min_zero, List.map_nil, List.append_nil]
    split
    · rfl
    · rw [show decide (d.left < ((0 : Nat) : Int)) = false by simp; omega, ← hd]
      simp [DpS.run, doneS]
  | j + 1, hj => by
    obtain ⟨o, ho⟩ : ∃ o, (opsB d.S w)[j]? = some o := ⟨_, List.getElem?_eq_getElem (by omega)⟩
    have hroom : ∀ v, o.2 = some v → ∀ L D G, ({ d with S := doneS d.S ((opsB d.S w).take j), log := L, left := G, dead := D } : DpS).hasRoom o.1 = true := fun v hv L D G => by
      have ho' : (opsB d.S w)[j]? = some (o.1, some v) := by rw [ho, ← hv]
      have hm := List.mem_of_getElem? ho'
      have hkw : 0 ≤ o.1.1 ∧ o.1.1 < 3 := by
        unfold opsB at hm
        rw [List.mem_append] at hm
        rcases hm with hm | hm
        · obtain ⟨x, -, e⟩ := List.mem_map.1 hm
          injection e with e1 e2
          cases e2
        · obtain ⟨x, hx, e⟩ := List.mem_map.1 hm
          injection e with e1 e2
          rw [← e1]
          exact hk x ((mem_putL x).1 hx).1
      have := ops_room (room := fun t => countS t w) hh hw (fun _ => Nat.le_refl _) ho'
      unfold DpS.hasRoom DpS.roomOf
      rw [Bool.or_eq_true]
      refine this.imp id fun h => ?_
      have h3 := hc o.1.1.toNat (by omega)
      rw [show ((o.1.1.toNat : Nat) : Int) = o.1.1 by omega] at h3
      rw [if_pos hkw, decide_eq_true_eq]
      show ((countS o.1.1 (doneS d.S ((opsB d.S w).take j)) : Nat) : Int) < d.room o.1.1.toNat
      omega
    rw [take_snoc _ _ ho, DpS.run_snoc, DpS.run_upTo d w hd hh hw hk hc j (by omega)]
    unfold DpS.upTo
    by_cases hl : d.left < 0
    · rw [if_pos hl, if_pos hl, DpS.step_good _ _ (by unfold DpS.stop; simp [hd]; omega) (fun v hv => hroom v hv _ _ _), take_snoc _ _ ho, doneS_snoc, List.map_append]
      unfold DpS.stop
      simp only [hd, DpS.mk.injEq, List.map_cons, List.map_nil, List.append_assoc, and_true, true_and]
      refine ⟨by rw [if_neg (by omega)], ?_⟩
      simp
      omega
    · rw [if_neg hl, if_neg hl]
      by_cases hlt : j < d.left.toNat
      · rw [show min d.left.toNat j = j by omega, show min d.left.toNat (j + 1) = j + 1 by omega, DpS.step_good _ _ (by unfold DpS.stop; simp; omega) (fun v hv => hroom v hv _ _ _), take_snoc _ _ ho, doneS_snoc, List.map_append]
        unfold DpS.stop
        simp only [DpS.mk.injEq, List.map_cons, List.map_nil, List.append_assoc, and_true, true_and]
        refine ⟨by rw [if_pos (by omega)]; omega, ?_⟩
        rw [Bool.eq_iff_iff]
        simp
        omega
      · rw [show min d.left.toNat j = d.left.toNat by omega, show min d.left.toNat (j + 1) = d.left.toNat by omega, DpS.step_dead _ _ (by unfold DpS.stop; simp; omega)]
        unfold DpS.stop
        simp only [DpS.mk.injEq, and_true, true_and]
        refine ⟨by rw [if_neg (by omega)], ?_⟩
        rw [Bool.eq_iff_iff]
        simp
        omega
end Go.Proofs.YtkkfmkhbdoeglabGreatDoor
