/- A part of what is proved here: lemmas and contracts of single functions. No condition but those that each names. -/
import Derived.Test.YtkkfmkhbdoeglabGreatDoorG38
import Derived.Test.YtkkfmkhbdoeglabGreatDoorG39
import Derived.Test.YtkkfmkhbdoeglabGreatDoorG42
namespace Go.Proofs.YtkkfmkhbdoeglabGreatDoor
/-- what a host is behind Reconciled, and the fault -/
def recFault (T : List E) (room : Nat → Int) : Int × Int := match overS T room with
  | some t => (10, (t : Int))
  | none => (0, 0)
def recOnce (d : DpS) (T : List E) : DpS := match overS T d.room with
  | some _ => d
  | none => d.run (opsB d.S T)
def recStart (l : List Int) (old : List E) : DpS := DpS.run ⟨-1, false, roomN l, [], []⟩ (putOps old)
def recB (l : List Int) (old T : List E) (stop : Int) (again : Bool) : DpS :=
  let d1 := recOnce { recStart l old with log := [], left := max stop (-1) } T
  if again then recOnce { d1 with left := -1, dead := false } T else d1
/-- what a datapath holds, if these are put one behind the other -/
def inTab (k : K) : Prop := 0 ≤ k.1 ∧ k.1 < 3
instance (k : K) : Decidable (inTab k) := inferInstanceAs (Decidable (_ ∧ _))
def thereStep (room : Nat → Int) (S : List E) (x : E) : List E :=
  if inTab x.1 then (if (getS x.1 S).isSome || decide ((countS x.1.1 S : Int) < room x.1.1.toNat) then putS x.1 x.2 S else S) else S
def thereB (room : Nat → Int) (l : List E) : List E := l.foldl (thereStep room) []
theorem thereB_take (room : Nat → Int) (l : List E) (k : Nat) (h : k < l.length) : thereB room (l.take (k + 1)) = thereStep room (thereB room (l.take k)) l[k] := by
  unfold thereB
  rw [List.take_succ_eq_append_getElem h, List.foldl_append]
  rfl
theorem roomA_bound (l : List Int) (t : Nat) : 0 ≤ roomA l t ∧ roomA l t ≤ 40 := by
  unfold roomA
  split <;> omega
theorem roomN_bound (l : List Int) (t : Nat) : 0 ≤ roomN l t ∧ roomN l t ≤ 40 := by
  match t with
  | 0 => exact roomA_bound l 0
  | 1 => exact roomA_bound l 1
  | _ + 2 => exact roomA_bound l 2
theorem roomN_at (l : List Int) (t : Nat) (h : t < 3) : roomN l t = roomA l t := by
  match t with
  | 0 => rfl
  | 1 => rfl
  | 2 => rfl
/-- what holds of entries that were put so -/
structure ThereOk (room : Nat → Int) (P : E → Prop) (S : List E) : Prop where
  sorted : SortedE S
  tab : ∀ x ∈ S, inTab x.1
  room : ∀ t : Nat, t < 3 → (countS (t : Int) S : Int) ≤ room t
  mem : ∀ x ∈ S, P x
theorem countS_has {S : List E} {k : K} {v : List UInt8} (hS : SortedE S) (hk : (getS k S).isSome = true) (t : Int) : countS t (putS k v S) ≤ countS t S := by
  refine countS_le (sorted_put _ _ hS) (fun x hx => ?_) t
  rcases (mem_put k v S x).1 hx with rfl | ⟨h, -⟩
  · obtain ⟨u, hu⟩ := Option.isSome_iff_exists.1 hk
    exact List.mem_map.2 ⟨_, (get_iff hS.keys k u).1 hu, rfl⟩
  · exact List.mem_map.2 ⟨x, h, rfl⟩
theorem countS_other {S : List E} {k : K} {v : List UInt8} {t : Int} (hS : SortedE S) (ht : k.1 ≠ t) : countS t (putS k v S) ≤ countS t S := by
  rw [countS_keys, countS_keys]
  refine length_subG ((sorted_put k v hS).keys.filter _) fun y hy => ?_
  obtain ⟨hy, ht'⟩ := List.mem_filter.1 hy
  obtain ⟨x, hx, rfl⟩ := List.mem_map.1 hy
  rcases (mem_put k v S x).1 hx with rfl | ⟨h, -⟩
  · exact absurd (of_decide_eq_true ht') ht
  · exact List.mem_filter.2 ⟨List.mem_map.2 ⟨x, h, rfl⟩, ht'⟩
theorem ThereOk.step {room : Nat → Int} {P : E → Prop} {S : List E} (h : ThereOk room P S) {x : E} (hx : P x) : ThereOk room P (thereStep room S x) := by
  unfold thereStep
  by_cases ht : inTab x.1
  · rw [if_pos ht]
    by_cases hc : ((getS x.1 S).isSome || decide ((countS x.1.1 S : Int) < room x.1.1.toNat)) = true
    · rw [if_pos hc]
      refine ⟨sorted_put _ _ h.sorted, fun y hy => ?_, fun t h3 => ?_, fun y hy => ?_⟩
      · rcases (mem_put x.1 x.2 S y).1 hy with rfl | ⟨h1, -⟩
        · exact ht
        · exact h.tab y h1
      · have h1 := h.room t h3
        by_cases he : x.1.1 = (t : Int)
        · rcases Bool.eq_false_or_eq_true (getS x.1 S).isSome with hg | hg
          · have := countS_has (v := x.2) h.sorted hg (t : Int)
            omega
          · rw [hg, Bool.false_or, decide_eq_true_eq, he] at hc
            have h2 := countS_put (v := x.2) h.sorted (Option.not_isSome_iff_eq_none.1 (by rw [hg]; decide))
            rw [he] at h2
            rw [Int.toNat_natCast] at hc
            omega
        · have := countS_other (v := x.2) h.sorted he
          omega
      · rcases (mem_put x.1 x.2 S y).1 hy with rfl | ⟨h1, -⟩
        · exact hx
        · exact h.mem y h1
    · rw [if_neg hc]
      exact h
  · rw [if_neg ht]
    exact h
theorem thereB_ok (room : Nat → Int) (hroom : ∀ t, 0 ≤ room t) (P : E → Prop) (l : List E) (hl : ∀ x ∈ l, P x) : ThereOk room P (thereB room l) := by
  have key : ∀ (l : List E) (S : List E), (∀ x ∈ l, P x) → ThereOk room P S → ThereOk room P (l.foldl (thereStep room) S) := by
    intro l
    induction l with
    | nil => exact fun S _ h => h
    | cons x l ih => exact fun S hl h => ih _ (fun y hy => hl y (by simp [hy])) (h.step (hl x (by simp)))
  exact key l [] hl ⟨SortedE.nil, fun _ h => (by cases h), fun t _ => (hroom t), fun _ h => (by cases h)⟩
theorem count_three {S : List E} (h : ∀ x ∈ S, inTab x.1) : S.length = countS 0 S + countS 1 S + countS 2 S := by
  induction S with
  | nil => rfl
  | cons x S ih =>
    have h1 := ih fun y hy => h y (by simp [hy])
    obtain ⟨h2, h3⟩ := h x (by simp)
    unfold countS at h1 ⊢
    rw [List.countP_cons, List.countP_cons, List.countP_cons, List.length_cons, h1]
    have h4 : x.1.1 = 0 ∨ x.1.1 = 1 ∨ x.1.1 = 2 := by omega
    rcases h4 with h4 | h4 | h4 <;> simp [h4] <;> omega
theorem ThereOk.len {l : List Int} {P : E → Prop} {S : List E} (h : ThereOk (roomN l) P S) : S.length ≤ 120 := by
  have h0 := h.room 0 (by omega)
  have h1 := h.room 1 (by omega)
  have h2 := h.room 2 (by omega)
  have b0 := (roomN_bound l 0).2
  have b1 := (roomN_bound l 1).2
  have b2 := (roomN_bound l 2).2
  have e := count_three h.tab
  have h0' : ((countS 0 S : Nat) : Int) ≤ roomN l 0 := h0
  have h1' : ((countS 1 S : Nat) : Int) ≤ roomN l 1 := h1
  have h2' : ((countS 2 S : Nat) : Int) ≤ roomN l 2 := h2
  omega
/-- a datapath that never stops, put to -/
theorem put_there (d : DpS) (x : E) (hl : d.left = -1) (hd : d.dead = false) (hr : ∀ t, 0 ≤ d.room t) (hS : ∀ y ∈ d.S, inTab y.1) :
    (d.put x.1 x.2).left = -1 ∧ (d.put x.1 x.2).dead = false ∧ (d.put x.1 x.2).room = d.room ∧ (d.put x.1 x.2).S = thereStep d.room d.S x := by
  have hs : d.stop = d := by
    unfold DpS.stop
    rw [hl, hd]
    obtain ⟨l', d', r, S, g⟩ := d
    simp only at hl hd
    subst hl hd
    rfl
  unfold DpS.put
  rw [hs, hd]
  simp only [Bool.false_eq_true, if_false]
  unfold DpS.hasRoom DpS.roomOf thereStep
  by_cases ht : inTab x.1
  · rw [if_pos ht]
    have ht' : 0 ≤ x.1.1 ∧ x.1.1 < 3 := ht
    rw [if_pos ht']
    by_cases hc : ((getS x.1 d.S).isSome || decide ((countS x.1.1 d.S : Int) < d.room x.1.1.toNat)) = true
    · rw [if_pos hc, if_pos hc]
      exact ⟨hl, hd, rfl, rfl⟩
    · rw [if_neg hc, if_neg hc]
      exact ⟨hl, hd, rfl, rfl⟩
  · have hg : getS x.1 d.S = none := (get_none x.1).2 fun y hy e => ht (e ▸ hS y hy)
    have ht' : ¬ (0 ≤ x.1.1 ∧ x.1.1 < 3) := ht
    rw [if_neg ht, if_neg ht', hg]
    have : ¬ ((countS x.1.1 d.S : Int) < 0) := by omega
    simp only [Option.isSome_none, Bool.false_or, this, decide_false, Bool.false_eq_true, if_false]
    simp only [hl, hd, and_self]
theorem run_there (l : List E) : ∀ (d : DpS), d.left = -1 → d.dead = false → (∀ t, 0 ≤ d.room t) → ThereOk d.room (fun _ => True) d.S →
    (d.run (putOps l)).left = -1 ∧ (d.run (putOps l)).dead = false ∧ (d.run (putOps l)).room = d.room ∧ (d.run (putOps l)).S = l.foldl (thereStep d.room) d.S := by
  induction l with
  | nil => exact fun d h1 h2 _ _ => ⟨h1, h2, rfl, rfl⟩
  | cons x l ih =>
    intro d h1 h2 h3 h4
    obtain ⟨p1, p2, p3, p4⟩ := put_there d x h1 h2 h3 h4.tab
    have h5 : ThereOk (d.put x.1 x.2).room (fun _ => True) (d.put x.1 x.2).S := by
      rw [p3, p4]
      exact h4.step trivial
    have := ih (d.put x.1 x.2) p1 p2 (by rw [p3]; exact h3) h5
    rw [p3, p4] at this
    exact this
theorem recStart_is (l : List Int) (old : List E) : (recStart l old).left = -1 ∧ (recStart l old).dead = false ∧ (recStart l old).room = roomN l ∧ (recStart l old).S = thereB (roomN l) old :=
  run_there old ⟨-1, false, roomN l, [], []⟩ rfl rfl (fun t => (roomN_bound l t).1) ⟨SortedE.nil, fun _ h => (by cases h), fun t _ => (roomN_bound l t).1, fun _ _ => trivial⟩
theorem overS_none {S : List E} {room : Nat → Int} (h : overS S room = none) : ∀ t : Nat, t < 3 → (countS (t : Int) S : Int) ≤ room t := by
  unfold overS at h
  split at h
  · cases h
  · split at h
    · cases h
    · split at h
      · cases h
      · intro t ht
        match t, ht with
        | 0, _ => show ((countS 0 S : Nat) : Int) ≤ _; omega
        | 1, _ => show ((countS 1 S : Nat) : Int) ≤ _; omega
        | 2, _ => show ((countS 2 S : Nat) : Int) ≤ _; omega
/-- what is done to a datapath -/
def doneT (h w : List E) : List (List UInt8) := (opsB h w).map textOf
def aftB (h w : List E) (n : Nat) : List E := doneS h ((opsB h w).take n)
theorem run_all (d : DpS) (T : List E) (hd : d.dead = false) (hh : SortedE d.S) (hT : SortedE T) (hk : ∀ x ∈ T, inTab x.1) (ho : overS T d.room = none) : d.run (opsB d.S T) = d.upTo (opsB d.S T) (opsB d.S T).length := by
  have := DpS.run_upTo d T hd hh hT hk (overS_none ho) (opsB d.S T).length (Nat.le_refl _)
  rwa [List.take_length] at this
theorem recOnce_go (d : DpS) (T : List E) (hd : d.dead = false) (hh : SortedE d.S) (hT : SortedE T) (hk : ∀ x ∈ T, inTab x.1) (ho : overS T d.room = none) : recOnce d T = d.upTo (opsB d.S T) (opsB d.S T).length := by
  unfold recOnce
  rw [ho]
  exact run_all d T hd hh hT hk ho
theorem upTo_neg (d : DpS) (os : List DOp) (h : d.left < 0) : (d.upTo os os.length).S = doneS d.S os ∧ (d.upTo os os.length).log = d.log ++ os.map textOf := by
  unfold DpS.upTo
  rw [if_pos h, List.take_length]
  exact ⟨rfl, rfl⟩
theorem upTo_nat (d : DpS) (os : List DOp) (n : Nat) (h : d.left = (n : Int)) (hn : n ≤ os.length) : (d.upTo os os.length).S = doneS d.S (os.take n) ∧ (d.upTo os os.length).log = d.log ++ (os.take n).map textOf ∧ (d.upTo os os.length).room = d.room := by
  unfold DpS.upTo
  rw [if_neg (by omega), h, Int.toNat_natCast, Nat.min_eq_left hn]
  exact ⟨rfl, rfl, rfl⟩
/-- all is done -/
theorem rec_all (l : List Int) (old T : List E) (hT : SortedE T) (hk : ∀ x ∈ T, inTab x.1) (ho : overS T (roomN l) = none) :
    (recB l old T (-1) false).S = T ∧ (recB l old T (-1) false).log = doneT (thereB (roomN l) old) T := by
  obtain ⟨h1, h2, h3, h4⟩ := recStart_is l old
  have hok := thereB_ok (roomN l) (fun t => (roomN_bound l t).1) (fun _ => True) old fun _ _ => trivial
  have e : recB l old T (-1) false = recOnce { recStart l old with log := [], left := max (-1) (-1) } T := rfl
  have e0 := recOnce_go { recStart l old with log := [], left := max (-1) (-1) } T h2 (by show SortedE (recStart l old).S; rw [h4]; exact hok.sorted) hT hk (by show overS T (recStart l old).room = none; rw [h3]; exact ho)
  rw [e]
  obtain ⟨u1, u2⟩ := upTo_neg { recStart l old with log := [], left := max (-1) (-1) } (opsB (recStart l old).S T) (by show max (-1 : Int) (-1) < 0; omega)
  refine ⟨(congrArg DpS.S e0).trans (u1.trans ?_), (congrArg DpS.log e0).trans (u2.trans ?_)⟩
  · show doneS (recStart l old).S (opsB (recStart l old).S T) = T
    rw [h4]
    exact ops_all hok.sorted hT
  · show [] ++ (opsB (recStart l old).S T).map textOf = _
    rw [h4]
    rfl
/-- so many are done -/
theorem rec_some (l : List Int) (old T : List E) (n : Nat) (hT : SortedE T) (hk : ∀ x ∈ T, inTab x.1) (ho : overS T (roomN l) = none) (hn : n ≤ (doneT (thereB (roomN l) old) T).length) :
    (recOnce { recStart l old with log := [], left := max (n : Int) (-1) } T).S = aftB (thereB (roomN l) old) T n ∧ (recOnce { recStart l old with log := [], left := max (n : Int) (-1) } T).log = (doneT (thereB (roomN l) old) T).take n ∧ (recOnce { recStart l old with log := [], left := max (n : Int) (-1) } T).room = roomN l := by
  obtain ⟨h1, h2, h3, h4⟩ := recStart_is l old
  have hok := thereB_ok (roomN l) (fun t => (roomN_bound l t).1) (fun _ => True) old fun _ _ => trivial
  unfold doneT at hn
  rw [List.length_map, ← h4] at hn
  have e0 := recOnce_go { recStart l old with log := [], left := max (n : Int) (-1) } T h2 (by show SortedE (recStart l old).S; rw [h4]; exact hok.sorted) hT hk (by show overS T (recStart l old).room = none; rw [h3]; exact ho)
  obtain ⟨u1, u2, u3⟩ := upTo_nat { recStart l old with log := [], left := max (n : Int) (-1) } (opsB (recStart l old).S T) n (by show max (n : Int) (-1) = n; omega) hn
  refine ⟨(congrArg DpS.S e0).trans (u1.trans ?_), (congrArg DpS.log e0).trans (u2.trans ?_), (congrArg DpS.room e0).trans (u3.trans h3)⟩
  · show doneS (recStart l old).S ((opsB (recStart l old).S T).take n) = _
    rw [h4]
    rfl
  · show [] ++ ((opsB (recStart l old).S T).take n).map textOf = _
    rw [h4, List.nil_append]
    unfold doneT
    rw [List.map_take]
theorem rec_stop (l : List Int) (old T : List E) (n : Nat) (hT : SortedE T) (hk : ∀ x ∈ T, inTab x.1) (ho : overS T (roomN l) = none) (hn : n ≤ (doneT (thereB (roomN l) old) T).length) :
    (recB l old T n false).S = aftB (thereB (roomN l) old) T n ∧ (recB l old T n false).log = (doneT (thereB (roomN l) old) T).take n :=
  ⟨(rec_some l old T n hT hk ho hn).1, (rec_some l old T n hT hk ho hn).2.1⟩
/-- and again, the rest -/
theorem rec_again (l : List Int) (old T : List E) (n : Nat) (hT : SortedE T) (hk : ∀ x ∈ T, inTab x.1) (ho : overS T (roomN l) = none) (hn : n ≤ (doneT (thereB (roomN l) old) T).length) :
    (recB l old T n true).S = T ∧ (recB l old T n true).log = doneT (thereB (roomN l) old) T := by
  obtain ⟨s1, s2, s3⟩ := rec_some l old T n hT hk ho hn
  have hok := thereB_ok (roomN l) (fun t => (roomN_bound l t).1) (fun _ => True) old fun _ _ => trivial
  obtain ⟨d1, hd1⟩ : ∃ d1, d1 = recOnce { recStart l old with log := [], left := max (n : Int) (-1) } T := ⟨_, rfl⟩
  have e : recB l old T n true = recOnce { d1 with left := -1, dead := false } T := by rw [hd1]; rfl
  rw [← hd1] at s1 s2 s3
  rw [e]
  have hsd : SortedE d1.S := by rw [s1]; exact sorted_done _ hok.sorted
  have e0 := recOnce_go { d1 with left := -1, dead := false } T rfl hsd hT hk (by show overS T d1.room = none; rw [s3]; exact ho)
  obtain ⟨u1, u2⟩ := upTo_neg { d1 with left := -1, dead := false } (opsB d1.S T) (by show (-1 : Int) < 0; omega)
  refine ⟨(congrArg DpS.S e0).trans (u1.trans (ops_all hsd hT)), (congrArg DpS.log e0).trans (u2.trans ?_)⟩
  show d1.log ++ (opsB d1.S T).map textOf = _
  rw [s2, s1]
  unfold aftB doneT
  rw [ops_rest hok.sorted hT, List.map_drop, List.take_append_drop]
/-- no room: nothing is done -/
theorem rec_full (l : List Int) (old T : List E) (t : Nat) (ho : overS T (roomN l) = some t) (stop : Int) (again : Bool) :
    (recB l old T stop again).S = thereB (roomN l) old ∧ (recB l old T stop again).log = [] := by
  obtain ⟨h1, h2, h3, h4⟩ := recStart_is l old
  have e1 : recOnce { recStart l old with log := [], left := max stop (-1) } T = { recStart l old with log := [], left := max stop (-1) } := by
    unfold recOnce
    rw [show overS T ({ recStart l old with log := [], left := max stop (-1) } : DpS).room = some t by show overS T (recStart l old).room = _; rw [h3]; exact ho]
  cases again with
  | false =>
    have e : recB l old T stop false = recOnce { recStart l old with log := [], left := max stop (-1) } T := rfl
    rw [e, e1]
    exact ⟨h4, rfl⟩
  | true =>
    have e : recB l old T stop true = recOnce { recOnce { recStart l old with log := [], left := max stop (-1) } T with left := -1, dead := false } T := rfl
    rw [e, e1]
    have e2 : recOnce { recStart l old with log := [], left := -1, dead := false } T = { recStart l old with log := [], left := -1, dead := false } := by
      unfold recOnce
      rw [show overS T ({ recStart l old with log := [], left := -1, dead := false } : DpS).room = some t by show overS T (recStart l old).room = _; rw [h3]; exact ho]
    exact ⟨(congrArg DpS.S e2).trans h4, congrArg DpS.log e2⟩
theorem after_zero (h : List E) (w : List E) : aftB h w 0 = h := by
  unfold aftB
  rw [List.take_zero]
  rfl
/-- the document's two loops: what is gone, what is there -/
def aftH (h w : List E) (n k : Nat) : List E := doneS h ((dropOps (dropL (h.take k) w)).take n)
def aftW (h w : List E) (n k : Nat) : List E := doneS h ((dropOps (dropL h w) ++ putOps (putL h (w.take k))).take n)
theorem dropL_take (h w : List E) (k : Nat) (hk : k < h.length) : dropL (h.take (k + 1)) w = dropL (h.take k) w ++ if (getS h[k].1 w).isNone then [h[k]] else [] := by
  unfold dropL
  rw [List.take_succ_eq_append_getElem hk, List.filter_append, List.filter_cons]
  cases (getS h[k].1 w).isNone <;> rfl
theorem putL_take (h w : List E) (k : Nat) (hk : k < w.length) : putL h (w.take (k + 1)) = putL h (w.take k) ++ if w[k] ∈ h then [] else [w[k]] := by
  unfold putL
  rw [List.take_succ_eq_append_getElem hk, List.filter_append, List.filter_cons]
  by_cases hm : w[k] ∈ h <;> simp [hm]
theorem aftH_go (h w : List E) (n k : Nat) (hk : k < h.length) (hg : (getS h[k].1 w).isNone = true) :
    aftH h w n (k + 1) = if (dropL (h.take k) w).length < n then dropS h[k].1 (aftH h w n k) else aftH h w n k := by
  unfold aftH
  rw [dropL_take h w k hk, hg, if_pos rfl, show dropOps (dropL (h.take k) w ++ [h[k]]) = dropOps (dropL (h.take k) w) ++ [(h[k].1, none)] by unfold dropOps; rw [List.map_append]; rfl, List.take_append, dropOps_length]
  by_cases hn : (dropL (h.take k) w).length < n
  · rw [if_pos hn, doneS_append, List.take_of_length_le (l := [_]) (by rw [List.length_singleton]; omega), List.take_of_length_le (by rw [dropOps_length]; omega)]
    rfl
  · rw [if_neg hn, show n - (dropL (h.take k) w).length = 0 by omega, List.take_zero, List.append_nil]
theorem aftH_stay (h w : List E) (n k : Nat) (hk : k < h.length) (hg : (getS h[k].1 w).isNone = false) : aftH h w n (k + 1) = aftH h w n k := by
  unfold aftH
  rw [dropL_take h w k hk, hg]
  simp
theorem aftH_zero (h w : List E) (n : Nat) : aftH h w n 0 = h := by
  unfold aftH dropL dropOps
  rw [List.take_zero, List.filter_nil, List.map_nil, List.take_nil]
  rfl
theorem aftH_end (h w : List E) (n : Nat) : aftH h w n h.length = aftW h w n 0 := by
  unfold aftH aftW
  rw [List.take_length, List.take_zero]
  unfold putL putOps
  simp
theorem aftW_go (h w : List E) (n k : Nat) (hk : k < w.length) (hm : w[k] ∉ h) :
    aftW h w n (k + 1) = if (dropL h w).length + (putL h (w.take k)).length < n then putS w[k].1 w[k].2 (aftW h w n k) else aftW h w n k := by
  unfold aftW
  rw [putL_take h w k hk, if_neg hm, show putOps (putL h (w.take k) ++ [w[k]]) = putOps (putL h (w.take k)) ++ [(w[k].1, some w[k].2)] by unfold putOps; rw [List.map_append]; rfl, ← List.append_assoc, List.take_append, List.length_append, dropOps_length, putOps_length]
  by_cases hn : (dropL h w).length + (putL h (w.take k)).length < n
  · rw [if_pos hn, doneS_append, List.take_of_length_le (l := [_]) (by rw [List.length_singleton]; omega)]
    rfl
  · rw [if_neg hn, show n - ((dropL h w).length + (putL h (w.take k)).length) = 0 by omega, List.take_zero, List.append_nil]
theorem aftW_stay (h w : List E) (n k : Nat) (hk : k < w.length) (hm : w[k] ∈ h) : aftW h w n (k + 1) = aftW h w n k := by
  unfold aftW
  rw [putL_take h w k hk, if_pos hm, List.append_nil]
theorem aftW_end (h w : List E) (n : Nat) : aftW h w n w.length = aftB h w n := by
  unfold aftW aftB opsB
  rw [List.take_length]
theorem aftW_sorted {h : List E} (hh : SortedE h) (w : List E) (n k : Nat) : SortedE (aftW h w n k) := sorted_done _ hh
theorem done_length (S : List E) (os : List DOp) (hS : SortedE S) : (doneS S os).length ≤ S.length + os.length := by
  induction os generalizing S with
  | nil => exact Nat.le_refl _
  | cons o os ih =>
    have h1 : (doS S o).length ≤ S.length + 1 := by
      obtain ⟨k, v⟩ := o
      cases v with
      | none =>
        show (dropS k S).length ≤ _
        have := List.length_filter_le (fun x : E => !(x.1 == k)) S
        unfold dropS
        omega
      | some v =>
        show (putS k v S).length ≤ _
        have := length_subG (m := (k, v) :: S) (sorted_put k v hS).nodup fun x hx => by
          rcases (mem_put k v S x).1 hx with h | ⟨h, -⟩
          · rw [h]; exact List.mem_cons_self
          · exact List.mem_cons_of_mem _ h
        rw [List.length_cons] at this
        exact this
    have := ih (doS S o) (sorted_do o hS)
    show (doneS (doS S o) os).length ≤ _
    rw [List.length_cons]
    omega
theorem drop_lt {S : List E} (k : K) (hS : SortedE S) : ((dropS k S).length < S.length) ↔ (getS k S).isSome = true := by
  unfold dropS
  constructor
  · intro h
    rcases Bool.eq_false_or_eq_true (getS k S).isSome with hg | hg
    · exact hg
    · have hn := (get_none k).1 (Option.not_isSome_iff_eq_none.1 (by rw [hg]; decide))
      rw [List.filter_eq_self.2 (fun x hx => by simp; exact fun e => hn x hx e)] at h
      omega
  · intro h
    obtain ⟨v, hv⟩ := Option.isSome_iff_exists.1 h
    have hm := (get_iff hS.keys k v).1 hv
    have := List.length_filter_lt_length_iff_exists (p := fun x : E => !(x.1 == k)) (l := S)
    exact this.2 ⟨_, hm, by simp⟩
theorem step_mem (d : DpS) (o : DOp) (y : E) (h : y ∈ (d.step o).S) : y ∈ d.S ∨ o = (y.1, some y.2) := by
  obtain ⟨k, v⟩ := o
  have hs : d.stop.S = d.S := rfl
  cases v with
  | none =>
    unfold DpS.step DpS.drop at h
    simp only at h
    split at h
    · exact .inl h
    · exact .inl ((mem_drop k _ y).1 h).1
  | some v =>
    unfold DpS.step DpS.put at h
    simp only at h
    split at h
    · exact .inl h
    · split at h
      · rcases (mem_put k v _ y).1 h with rfl | ⟨h, -⟩
        · exact .inr rfl
        · exact .inl h
      · exact .inl h
theorem run_mem : ∀ (os : List DOp) (d : DpS) (y : E), y ∈ (d.run os).S → y ∈ d.S ∨ (y.1, some y.2) ∈ os
  | [], _, _, h => .inl h
  | o :: os, d, y, h => by
    rcases run_mem os (d.step o) y h with h | h
    · rcases step_mem d o y h with h | h
      · exact .inl h
      · exact .inr (by rw [h]; exact List.mem_cons_self)
    · exact .inr (List.mem_cons_of_mem _ h)
theorem opsB_len (h w : List E) : (opsB h w).length ≤ h.length + w.length := by
  unfold opsB
  rw [List.length_append, dropOps_length, putOps_length]
  have h1 : (dropL h w).length ≤ h.length := List.length_filter_le _ _
  have h2 : (putL h w).length ≤ w.length := List.length_filter_le _ _
  omega
theorem opsB_put {h w : List E} {y : E} (hm : (y.1, some y.2) ∈ opsB h w) : y ∈ w := by
  unfold opsB at hm
  rw [List.mem_append] at hm
  rcases hm with hm | hm
  · obtain ⟨x, -, e⟩ := List.mem_map.1 hm
    injection e with e1 e2
    cases e2
  · obtain ⟨x, hx, e⟩ := List.mem_map.1 hm
    injection e with e1 e2
    injection e2 with e3
    have : x = y := Prod.ext e1 e3
    rw [← this]
    exact ((mem_putL x).1 hx).1
theorem recOnce_bounds (d : DpS) (T : List E) (hS : SortedE d.S) (h1 : d.S.length ≤ 120) (h2 : d.log.length ≤ 120) (hT : T.length ≤ 2400) (hk : ∀ y ∈ d.S, y.1.2.length ≤ maxB) (hTk : ∀ y ∈ T, y.1.2.length ≤ maxB) :
    (recOnce d T).S.length ≤ 10000 ∧ (recOnce d T).log.length ≤ 10000 ∧ ∀ y ∈ (recOnce d T).S, y.1.2.length ≤ maxB := by
  unfold recOnce
  split
  · exact ⟨by omega, by omega, hk⟩
  · obtain ⟨-, r1, r2⟩ := DpS.run_size (opsB d.S T) hS
    have hl := opsB_len d.S T
    refine ⟨by omega, by omega, fun y hy => ?_⟩
    rcases run_mem _ d y hy with h | h
    · exact hk y h
    · exact hTk y (opsB_put h)
theorem doneT_len (h w : List E) : (doneT h w).length ≤ h.length + w.length := by
  unfold doneT
  rw [List.length_map]
  exact opsB_len h w
theorem step_room (d : DpS) (o : DOp) : (d.step o).room = d.room := by
  obtain ⟨k, v⟩ := o
  cases v with
  | none => unfold DpS.step DpS.drop; simp only; split <;> rfl
  | some v =>
    unfold DpS.step DpS.put
    simp only
    split
    · rfl
    · split <;> rfl
theorem run_room : ∀ (os : List DOp) (d : DpS), (d.run os).room = d.room
  | [], _ => rfl
  | o :: os, d => (run_room os (d.step o)).trans (step_room d o)
theorem recOnce_room (d : DpS) (T : List E) : (recOnce d T).room = d.room := by
  unfold recOnce
  split
  · rfl
  · exact run_room _ _
end Go.Proofs.YtkkfmkhbdoeglabGreatDoor
namespace Go.Proofs.YtkkfmkhbdoeglabGreatDoor
open Go.RowKit
theorem entV_of (x : E) : entV x = .agg #[.int .i64 x.1.1, .string ⟨x.1.2.toArray⟩, .string ⟨x.2.toArray⟩] := rfl
set_option maxRecDepth 100000 in
set_option maxHeartbeats 1000000 in
theorem refAfter_any (hv wv : Value) (h t : List E) (n : Nat) (w : World) (hh : EntsAt w hv h) (ht : EntsAt w wv t) (hs : SortedE h) (hl : h.length ≤ 1000000) (tl : t.length ≤ 1000000) (hn : n ≤ 1000000000) :
    Calls Tryz.prog 23 #[hv, wv, .int .i64 (n : Nat)] w fun e w' => ∃ v, e = .returned v ∧ EntsAt w' v (aftB h t n) ∧ Below w.heap.size w w' := by
  have HH := Lib.hid hh
  have HT := Lib.hid ht
  obtain ⟨a, cap, rfl, -, -⟩ := hh.opened
  obtain ⟨a2, cap2, rfl, -, -⟩ := ht.opened
  have HS := Lib.hid hs
  clear hh ht hs
  go_enter Tryz.func23, Tryz.ntmps23
  go_wp2
  go_loopw [2, 7, 8] (fun nv ov i wr => ∃ k : Nat, k ≤ h.length ∧ i = .int .i64 (k : Int) ∧ nv = .int .i64 ((n - (dropL (h.take k) t).length : Nat) : Int) ∧ EntsAt wr ov (aftH h t n k) ∧ Below w.heap.size w wr) (fun _ _ i _ => h.length - (intOf i).toNat)
  case atStart => exact ⟨0, Nat.zero_le _, rfl, by simp [dropL], by rw [aftH_zero]; exact HH.out, Below.refl _ _⟩
  case round =>
    obtain ⟨k, hk, rfl, rfl, hov, hbr⟩ := hrel
    have HO := Lib.hid hov
    have HB := Lib.hid hbr
    obtain ⟨oa, ocap, rfl, -, -⟩ := hov.opened
    have HLN : Hid ((dropL (h.take k) t).length ≤ k) := Lib.hid (by
      have := List.length_filter_le (fun x : E => (getS x.1 t).isNone) (h.take k)
      rw [List.length_take] at this
      unfold dropL
      omega)
    have HAL : Hid ((aftH h t n k).length ≤ 3000000) := Lib.hid (by
      have h1 := done_length h ((dropOps (dropL (h.take k) t)).take n) HS.out
      have h2 := HLN.out
      rw [List.length_take, dropOps_length] at h1
      unfold aftH
      omega)
    clear hov hbr
    by_cases hlt : k < h.length
    · have hlt' : (k : Int) < h.length := by omega
      obtain ⟨a', cap', he, -, hx⟩ := (HH.out.below HB.out).opened
      cases he
      obtain ⟨b1, o1, rfl, c0, c1, c2⟩ := hx k hlt
      have lb := cell_lt c0
      clear hx
      have HSL : Hid ((dropL (h.take (k + 1)) t).length = (dropL (h.take k) t).length + if (getS h[k].1 t).isNone then 1 else 0) := Lib.hid (by
        rw [dropL_take h t k hlt, List.length_append]
        split <;> rfl)
      have HHE := Lib.hid (fun W (hW : Below wr.heap.size wr W) => refHeld_any (.slice a2 t.length cap2) t h[k] W ((HT.out.below HB.out).below hW) (by omega))
      have HGO := Lib.hid (aftH_go h t n k hlt)
      have HST := Lib.hid (aftH_stay h t n k hlt)
      have HWI := Lib.hid (fun W (hW : Below wr.heap.size wr W) => refWith_any (.slice oa (aftH h t n k).length ocap) (aftH h t n k) h[k] true W (HO.out.below hW) (by have := HAL.out; omega))
      have HWD := Lib.hid (withB_drop (aftH h t n k) h[k])
      generalize hlk : h[k] = x at *
      rw [entV_of] at HHE HWI
      clear hlk
      go_wp2_with fail
      refine (HHE.out _ (Below.rf _)).mono ?_
      rintro e w2 ⟨rfl, hb2⟩
      have d0 := (hb2.cell (p := ⟨b1, o1 + k * 3, none⟩) lb).trans c0
      have d1 := (hb2.cell (p := ⟨b1, o1 + k * 3 + 1, none⟩) lb).trans c1
      have d2 := (hb2.cell (p := ⟨b1, o1 + k * 3 + 2, none⟩) lb).trans c2
      have HB2 := Lib.hid hb2
      have ls := hb2.size
      clear c0 c1 c2
      cases hg : (getS x.1 t).isSome with
      | true =>
        have HN2 := Lib.hid (HST.out (by rw [Option.isNone_eq_false_iff]; exact hg))
        have HL2 : Hid ((dropL (h.take (k + 1)) t).length = (dropL (h.take k) t).length) := Lib.hid (by rw [HSL.out, if_neg (by rw [Option.isNone_eq_false_iff.2 hg]; decide)]; rfl)
        clear hg hb2
        go_wp2
        go_roundw
        case rel => exact ⟨k + 1, by omega, by go_num, by rw [HL2.out], by rw [HN2.out]; exact HO.out.below HB2.out, HB.out.tn HB2.out⟩
        case measure => simp [intOf]; omega
      | false =>
        have hnn : (getS x.1 t).isNone = true := by rw [Option.isNone_iff_eq_none]; exact Option.not_isSome_iff_eq_none.1 (by rw [hg]; decide)
        have HN2 := Lib.hid (HGO.out hnn)
        have HL2 : Hid ((dropL (h.take (k + 1)) t).length = (dropL (h.take k) t).length + 1) := Lib.hid (by rw [HSL.out, if_pos hnn])
        clear hg hnn
        by_cases hlt2 : (dropL (h.take k) t).length < n
        · have hpos : (0 : Int) < ((n - (dropL (h.take k) t).length : Nat) : Int) := by omega
          have HN3 : Hid (aftH h t n (k + 1) = dropS x.1 (aftH h t n k)) := Lib.hid (by rw [HN2.out, if_pos hlt2])
          obtain ⟨m, hm⟩ : ∃ m, m = n - (dropL (h.take k) t).length := ⟨_, rfl⟩
          have HM : Hid (n - (dropL (h.take (k + 1)) t).length = m - 1) := Lib.hid (by rw [HL2.out, hm]; omega)
          have hmB : m ≤ 1000000000 := by omega
          rw [← hm] at hpos ⊢
          clear hm hb2
          go_wp2_with fail
          refine (HWI.out _ HB2.out).mono ?_
          rintro e w3 ⟨v3, rfl, hown3, hb3⟩
          have HE3 := Lib.hid hown3.ents
          obtain ⟨sa3, cap3, rfl⟩ := hown3.shape
          clear hown3
          go_wp2
          go_roundw
          case rel => exact ⟨k + 1, by omega, by go_num, by rw [HM.out, show ((m - 1 : Nat) : Int) = (m : Int) - 1 by omega], by rw [HN3.out, ← HWD.out]; exact HE3.out, (HB.out.tn HB2.out).tn hb3⟩
          case measure => simp [intOf]; omega
        · have hz : n - (dropL (h.take k) t).length = 0 := by omega
          have HN3 : Hid (aftH h t n (k + 1) = aftH h t n k) := Lib.hid (by rw [HN2.out, if_neg hlt2])
          have HM : Hid (n - (dropL (h.take (k + 1)) t).length = 0) := Lib.hid (by rw [HL2.out]; omega)
          rw [hz]
          clear hb2 hz hlt2
          go_wp2
          go_roundw
          case rel => exact ⟨k + 1, by omega, by go_num, by rw [HM.out]; rfl, by rw [HN3.out]; exact HO.out.below HB2.out, HB.out.tn HB2.out⟩
          case measure => simp [intOf]; omega
    · obtain rfl : k = h.length := by omega
      have hge : ¬ (h.length : Int) < h.length := by omega
      rw [List.take_length] at HLN ⊢
      have HO2 : Hid (EntsAt wr (.slice oa (aftH h t n h.length).length ocap) (aftW h t n 0)) := Lib.hid (by rw [← aftH_end]; exact HO.out)
      obtain ⟨D, hD⟩ : ∃ D, D = (dropL h t).length := ⟨_, rfl⟩
      have HD := Lib.hid hD
      rw [← hD] at HLN ⊢
      clear HO HAL hD hlt
      generalize (aftH h t n h.length).length = oal at *
      generalize wr = w0 at *
      go_wp2
      go_loopw [2, 7, 10] (fun nv ov i wr => ∃ k : Nat, k ≤ t.length ∧ i = .int .i64 (k : Int) ∧ nv = .int .i64 ((n - (D + (putL h (t.take k)).length) : Nat) : Int) ∧ EntsAt wr ov (aftW h t n k) ∧ Below w.heap.size w wr) (fun _ _ i _ => t.length - (intOf i).toNat)
      case atStart => exact ⟨0, Nat.zero_le _, rfl, by simp [putL], HO2.out, HB.out⟩
      case round =>
        obtain ⟨k, hk, rfl, rfl, hov, hbs⟩ := hrel
        have HO := Lib.hid hov
        have HC := Lib.hid hbs
        obtain ⟨ob, obcap, rfl, -, -⟩ := hov.opened
        have HLN2 : Hid ((putL h (t.take k)).length ≤ k) := Lib.hid (by
          have := List.length_filter_le (fun x : E => !decide (x ∈ h)) (t.take k)
          rw [List.length_take] at this
          unfold putL
          omega)
        have HAL : Hid ((aftW h t n k).length ≤ 4000000) := Lib.hid (by
          have h1 := done_length h ((dropOps (dropL h t) ++ putOps (putL h (t.take k))).take n) HS.out
          have h2 := HLN2.out
          have h3 := HLN.out
          rw [List.length_take, List.length_append, dropOps_length, putOps_length] at h1
          rw [HD.out] at h3
          unfold aftW
          omega)
        clear hov hbs
        by_cases hlt : k < t.length
        · have hlt' : (k : Int) < t.length := by omega
          obtain ⟨a', cap', he, -, hx⟩ := (HT.out.below HC.out).opened
          cases he
          obtain ⟨b1, o1, rfl, c0, c1, c2⟩ := hx k hlt
          have lb := cell_lt c0
          clear hx
          have HSL : Hid ((putL h (t.take (k + 1))).length = (putL h (t.take k)).length + if t[k] ∈ h then 0 else 1) := Lib.hid (by
            rw [putL_take h t k hlt, List.length_append]
            split <;> rfl)
          have HHE := Lib.hid (fun W (hW : Below wr.heap.size wr W) => refHas_any (.slice a h.length cap) h t[k] W ((HH.out.below HC.out).below hW) (by omega))
          have HGO := Lib.hid (aftW_go h t n k hlt)
          have HST := Lib.hid (aftW_stay h t n k hlt)
          have HWI := Lib.hid (fun W (hW : Below wr.heap.size wr W) => refWith_any (.slice ob (aftW h t n k).length obcap) (aftW h t n k) t[k] false W (HO.out.below hW) (by have := HAL.out; omega))
          have HWD := Lib.hid (withB_put (aftW_sorted HS.out t n k) t[k])
          generalize hlk : t[k] = x at *
          rw [entV_of] at HHE HWI
          clear hlk
          go_wp2_with fail
          refine (HHE.out _ (Below.rf _)).mono ?_
          rintro e w2 ⟨rfl, hb2⟩
          have d0 := (hb2.cell (p := ⟨b1, o1 + k * 3, none⟩) lb).trans c0
          have d1 := (hb2.cell (p := ⟨b1, o1 + k * 3 + 1, none⟩) lb).trans c1
          have d2 := (hb2.cell (p := ⟨b1, o1 + k * 3 + 2, none⟩) lb).trans c2
          have HB2 := Lib.hid hb2
          have ls := hb2.size
          clear c0 c1 c2
          by_cases hm : x ∈ h
          · have HN2 := Lib.hid (HST.out hm)
            have HL2 : Hid ((putL h (t.take (k + 1))).length = (putL h (t.take k)).length) := Lib.hid (by rw [HSL.out, if_pos hm]; rfl)
            rw [decide_eq_true hm]
            clear hm hb2
            go_wp2
            go_roundw
            case rel => exact ⟨k + 1, by omega, by go_num, by rw [HL2.out], by rw [HN2.out]; exact HO.out.below HB2.out, HC.out.tn HB2.out⟩
            case measure => simp [intOf]; omega
          · have HN2 := Lib.hid (HGO.out hm)
            have HL2 : Hid ((putL h (t.take (k + 1))).length = (putL h (t.take k)).length + 1) := Lib.hid (by rw [HSL.out, if_neg hm])
            rw [decide_eq_false hm]
            clear hm
            by_cases hlt2 : D + (putL h (t.take k)).length < n
            · have hpos : (0 : Int) < ((n - (D + (putL h (t.take k)).length) : Nat) : Int) := by omega
              have HN3 : Hid (aftW h t n (k + 1) = putS x.1 x.2 (aftW h t n k)) := Lib.hid (by rw [HN2.out, if_pos (by rw [← HD.out]; exact hlt2)])
              obtain ⟨m, hm⟩ : ∃ m, m = n - (D + (putL h (t.take k)).length) := ⟨_, rfl⟩
              have HM : Hid (n - (D + (putL h (t.take (k + 1))).length) = m - 1) := Lib.hid (by rw [HL2.out, hm]; omega)
              have hmB : m ≤ 1000000000 := by omega
              rw [← hm] at hpos ⊢
              clear hm hb2
              go_wp2_with fail
              refine (HWI.out _ HB2.out).mono ?_
              rintro e w3 ⟨v3, rfl, hown3, hb3⟩
              have HE3 := Lib.hid hown3.ents
              obtain ⟨sa3, cap3, rfl⟩ := hown3.shape
              clear hown3
              go_wp2
              go_roundw
              case rel => exact ⟨k + 1, by omega, by go_num, by rw [HM.out, show ((m - 1 : Nat) : Int) = (m : Int) - 1 by omega], by rw [HN3.out, ← HWD.out]; exact HE3.out, (HC.out.tn HB2.out).tn hb3⟩
              case measure => simp [intOf]; omega
            · have hz : n - (D + (putL h (t.take k)).length) = 0 := by omega
              have HN3 : Hid (aftW h t n (k + 1) = aftW h t n k) := Lib.hid (by rw [HN2.out, if_neg (by rw [← HD.out]; exact hlt2)])
              have HM : Hid (n - (D + (putL h (t.take (k + 1))).length) = 0) := Lib.hid (by rw [HL2.out]; omega)
              rw [hz]
              clear hb2 hz hlt2
              go_wp2
              go_roundw
              case rel => exact ⟨k + 1, by omega, by go_num, by rw [HM.out]; rfl, by rw [HN3.out]; exact HO.out.below HB2.out, HC.out.tn HB2.out⟩
              case measure => simp [intOf]; omega
        · obtain rfl : k = t.length := by omega
          have hge : ¬ (t.length : Int) < t.length := by omega
          have HE : Hid (EntsAt wr (.slice ob (aftW h t n t.length).length obcap) (aftB h t n)) := Lib.hid (by rw [← aftW_end]; exact HO.out)
          clear HO HAL
          generalize (aftW h t n t.length).length = ol at *
          go_wp2
          go_ret
          exact ⟨_, rfl, HE.out, HC.out⟩
end Go.Proofs.YtkkfmkhbdoeglabGreatDoor
namespace Go.Proofs.YtkkfmkhbdoeglabGreatDoor
open Go.RowKit
def rk (l : List Int) (k j : Nat) : Int := if j < k then roomA l j else 40
theorem rk_end (l : List Int) (k j : Nat) (h : k = 3 ∨ k = l.length) (hj : j < 3) (hk : k ≤ 3) : rk l k j = roomN l j := by
  rw [roomN_at l j hj]
  unfold rk
  by_cases hlt : j < k
  · rw [if_pos hlt]
  · rw [if_neg hlt]
    unfold roomA
    rw [if_neg (by omega)]
theorem rk_step (l : List Int) (k j : Nat) (h : k < l.length) : rk l (k + 1) j = if j = k then min (max l[k] 0) 40 else rk l k j := by
  unfold rk
  by_cases hj : j = k
  · subst hj
    rw [if_pos (by omega), if_pos rfl]
    unfold roomA
    rw [if_pos h, List.getD_eq_getElem?_getD, List.getElem?_eq_getElem h]
    rfl
  · rw [if_neg hj]
    by_cases hlt : j < k
    · rw [if_pos (by omega), if_pos hlt]
    · rw [if_neg (by omega), if_neg hlt]
set_option maxRecDepth 100000 in
set_option maxHeartbeats 1000000 in
theorem lawRooms_any (v : Value) (l : List Int) (w : World) (hr : SliceAt w v 1 l.length (l.map fun i => .int .i64 i)) (hl : l.length ≤ maxB) :
    Calls Tryz.prog 12 #[v] w fun e w' => ∃ rv, e = .returned rv ∧ SliceAt w' rv 1 3 [.int .i64 (roomN l 0), .int .i64 (roomN l 1), .int .i64 (roomN l 2)] ∧ Below w.heap.size w w' := by
  obtain ⟨-, a, cap, rfl, hcap, hx⟩ := hr
  have HX := Lib.hid hx
  have hm : maxB ≤ 1000000000000000000 := by decide
  clear hx
  go_enter Tryz.func12, Tryz.ntmps12
  go_wp2_with fail
  have hb0 : Below w.heap.size w (w.alloc (.cells #[.int .i64 40, .int .i64 40, .int .i64 40] 3)) := (Below.refl _ w).alloc (Nat.le_refl _) _
  have R0 := Lib.hid (heap_new w (.cells #[.int .i64 40, .int .i64 40, .int .i64 40] 3))
  have HB0 := Lib.hid hb0
  clear hb0
  go_loopw [4] (fun i wr => ∃ k : Nat, k ≤ l.length ∧ k ≤ 3 ∧ i = .int .i64 (k : Int) ∧ wr.heap[w.heap.size]? = some (.cells #[.int .i64 (rk l k 0), .int .i64 (rk l k 1), .int .i64 (rk l k 2)] 3 (0, 0)) ∧ Below w.heap.size w wr) (fun i _ => l.length - (intOf i).toNat)
  case atStart => exact ⟨0, Nat.zero_le _, by omega, rfl, R0.out, HB0.out⟩
  case round =>
    obtain ⟨k, hk, hk3, rfl, hrow, hbr⟩ := hrel
    have HR := Lib.hid hrow
    have HB := Lib.hid hbr
    by_cases hgo : k < l.length ∧ k < 3
    · obtain ⟨hlt, h3⟩ := hgo
      have hlt' : (k : Int) < l.length := by omega
      have h3' : (k : Int) < 3 := by omega
      obtain ⟨b, o, rfl, c0⟩ := HX.out k (by rw [List.length_map]; exact hlt)
      rw [List.getElem_map] at c0
      have d0 := (hbr.cell (p := ⟨b, o + k, none⟩) (cell_lt c0)).trans c0
      have hbne : b ≠ w.heap.size := fun e => by have : b < w.heap.size := cell_lt c0; omega
      have HST := Lib.hid (fun j => rk_step l k j hlt)
      generalize l[k] = x at *
      have hltB := block_lt hrow
      have hv3 : x < 0 ∨ 40 < x ∨ (¬ x < 0 ∧ ¬ 40 < x) := by omega
      obtain rfl | rfl | rfl : k = 0 ∨ k = 1 ∨ k = 2 := by omega
      · simp only [Nat.add_zero] at d0
        have e0 := cell_of_row _ _ 0 _ _ _ hrow
        have z0 := frozen_of_row _ _ 0 _ _ hrow
        have HW := fun v : Value => Lib.hid (heap_setCell _ _ 0 v hrow)
        have HW2 := fun v u : Value => Lib.hid (heap_setCell _ _ 0 u (heap_setCell _ _ 0 v hrow))
        have HBW := fun v : Value => Lib.hid (HB.out.setCell (p := ⟨w.heap.size, 0, none⟩) (Nat.le_refl _) v)
        have HBW2 := fun v u : Value => Lib.hid ((HB.out.setCell (p := ⟨w.heap.size, 0, none⟩) (Nat.le_refl _) v).setCell (p := ⟨w.heap.size, 0, none⟩) (Nat.le_refl _) u)
        clear hrow hbr
        rcases hv3 with hv | hv | ⟨hv, hv'⟩
        · have HM : Hid (min (max x 0) 40 = 0) := Lib.hid (by omega)
          go_wp2
          go_roundw
          case rel => exact ⟨0 + 1, by omega, by omega, rfl, by rw [HST.out 0, HST.out 1, HST.out 2, HM.out]; exact (HW2 _ _).out, (HBW2 _ _).out⟩
          case measure => simp [intOf]; omega
        · have HM : Hid (min (max x 0) 40 = 40) := Lib.hid (by omega)
          have hv0 : ¬ x < 0 := by omega
          go_wp2
          go_roundw
          case rel => exact ⟨0 + 1, by omega, by omega, rfl, by rw [HST.out 0, HST.out 1, HST.out 2, HM.out]; exact (HW2 _ _).out, (HBW2 _ _).out⟩
          case measure => simp [intOf]; omega
        · have HM : Hid (min (max x 0) 40 = x) := Lib.hid (by omega)
          go_wp2
          go_roundw
          case rel => exact ⟨0 + 1, by omega, by omega, rfl, by rw [HST.out 0, HST.out 1, HST.out 2, HM.out]; exact (HW _).out, (HBW _).out⟩
          case measure => simp [intOf]; omega
      · have e0 := cell_of_row _ _ 1 _ _ _ hrow
        have z0 := frozen_of_row _ _ 1 _ _ hrow
        have HW := fun v : Value => Lib.hid (heap_setCell _ _ 1 v hrow)
        have HW2 := fun v u : Value => Lib.hid (heap_setCell _ _ 1 u (heap_setCell _ _ 1 v hrow))
        have HBW := fun v : Value => Lib.hid (HB.out.setCell (p := ⟨w.heap.size, 1, none⟩) (Nat.le_refl _) v)
        have HBW2 := fun v u : Value => Lib.hid ((HB.out.setCell (p := ⟨w.heap.size, 1, none⟩) (Nat.le_refl _) v).setCell (p := ⟨w.heap.size, 1, none⟩) (Nat.le_refl _) u)
        clear hrow hbr
        rcases hv3 with hv | hv | ⟨hv, hv'⟩
        · have HM : Hid (min (max x 0) 40 = 0) := Lib.hid (by omega)
          go_wp2
          go_roundw
          case rel => exact ⟨1 + 1, by omega, by omega, rfl, by rw [HST.out 0, HST.out 1, HST.out 2, HM.out]; exact (HW2 _ _).out, (HBW2 _ _).out⟩
          case measure => simp [intOf]; omega
        · have HM : Hid (min (max x 0) 40 = 40) := Lib.hid (by omega)
          have hv0 : ¬ x < 0 := by omega
          go_wp2
          go_roundw
          case rel => exact ⟨1 + 1, by omega, by omega, rfl, by rw [HST.out 0, HST.out 1, HST.out 2, HM.out]; exact (HW2 _ _).out, (HBW2 _ _).out⟩
          case measure => simp [intOf]; omega
        · have HM : Hid (min (max x 0) 40 = x) := Lib.hid (by omega)
          go_wp2
          go_roundw
          case rel => exact ⟨1 + 1, by omega, by omega, rfl, by rw [HST.out 0, HST.out 1, HST.out 2, HM.out]; exact (HW _).out, (HBW _).out⟩
          case measure => simp [intOf]; omega
      · have e0 := cell_of_row _ _ 2 _ _ _ hrow
        have z0 := frozen_of_row _ _ 2 _ _ hrow
        have HW := fun v : Value => Lib.hid (heap_setCell _ _ 2 v hrow)
        have HW2 := fun v u : Value => Lib.hid (heap_setCell _ _ 2 u (heap_setCell _ _ 2 v hrow))
        have HBW := fun v : Value => Lib.hid (HB.out.setCell (p := ⟨w.heap.size, 2, none⟩) (Nat.le_refl _) v)
        have HBW2 := fun v u : Value => Lib.hid ((HB.out.setCell (p := ⟨w.heap.size, 2, none⟩) (Nat.le_refl _) v).setCell (p := ⟨w.heap.size, 2, none⟩) (Nat.le_refl _) u)
        clear hrow hbr
        rcases hv3 with hv | hv | ⟨hv, hv'⟩
        · have HM : Hid (min (max x 0) 40 = 0) := Lib.hid (by omega)
          go_wp2
          go_roundw
          case rel => exact ⟨2 + 1, by omega, by omega, rfl, by rw [HST.out 0, HST.out 1, HST.out 2, HM.out]; exact (HW2 _ _).out, (HBW2 _ _).out⟩
          case measure => simp [intOf]; omega
        · have HM : Hid (min (max x 0) 40 = 40) := Lib.hid (by omega)
          have hv0 : ¬ x < 0 := by omega
          go_wp2
          go_roundw
          case rel => exact ⟨2 + 1, by omega, by omega, rfl, by rw [HST.out 0, HST.out 1, HST.out 2, HM.out]; exact (HW2 _ _).out, (HBW2 _ _).out⟩
          case measure => simp [intOf]; omega
        · have HM : Hid (min (max x 0) 40 = x) := Lib.hid (by omega)
          go_wp2
          go_roundw
          case rel => exact ⟨2 + 1, by omega, by omega, rfl, by rw [HST.out 0, HST.out 1, HST.out 2, HM.out]; exact (HW _).out, (HBW _).out⟩
          case measure => simp [intOf]; omega
    · have hend : (¬ (k : Int) < l.length) ∨ ((k : Int) < l.length ∧ ¬ (k : Int) < 3) := by omega
      have hke : k = 3 ∨ k = l.length := by omega
      have HV : Hid (SliceAt wr (.slice (some ⟨w.heap.size, 0, none⟩) 3 3) 1 3 [.int .i64 (roomN l 0), .int .i64 (roomN l 1), .int .i64 (roomN l 2)]) := Lib.hid (by
        rw [← rk_end l k 0 hke (by omega) hk3, ← rk_end l k 1 hke (by omega) hk3, ← rk_end l k 2 hke (by omega) hk3]
        refine ⟨rfl, _, 3, rfl, Nat.le_refl _, fun i hi => ⟨_, 0, rfl, ?_⟩⟩
        have hi3 : i < 3 := hi
        match i, hi3 with
        | 0, _ => exact cell_of_row _ _ 0 _ _ _ hrow
        | 1, _ => exact cell_of_row _ _ 1 _ _ _ hrow
        | 2, _ => exact cell_of_row _ _ 2 _ _ _ hrow)
      clear hgo hrow hbr
      rcases hend with h0 | ⟨h0, h9⟩
      all_goals
        go_wp2
        go_ret
        exact ⟨_, rfl, HV.out, HB.out⟩
set_option maxRecDepth 100000 in
set_option maxHeartbeats 4000000 in
theorem lawThere_any (lv rv : Value) (old : List E) (l : List Int) (w : World) (ho : EntsAt w lv old) (hol : old.length ≤ 3518437208883) (hr : SliceAt w rv 1 3 [.int .i64 (roomN l 0), .int .i64 (roomN l 1), .int .i64 (roomN l 2)]) :
    Calls Tryz.prog 14 #[lv, rv] w fun e w' => ∃ v, e = .returned v ∧ EntsAt w' v (thereB (roomN l) old) ∧ Below w.heap.size w w' := by
  have HO := Lib.hid ho
  have HR := Lib.hid hr
  obtain ⟨a, cap, rfl, hcap, -⟩ := ho.opened
  obtain ⟨-, ra, rcap, rfl, hrcap, -⟩ := hr
  clear ho
  go_enter Tryz.func14, Tryz.ntmps14
  go_wp2_with fail
  go_loopw [5, 6] (fun ov i wr => ∃ k : Nat, k ≤ old.length ∧ i = .int .i64 (k : Int) ∧ EntsAt wr ov (thereB (roomN l) (old.take k)) ∧ Below w.heap.size w wr) (fun _ i _ => old.length - (intOf i).toNat)
  case atStart => exact ⟨0, Nat.zero_le _, rfl, SliceAt.nil _ _ _ _, Below.refl _ _⟩
  case round =>
    obtain ⟨k, hk, rfl, hov, hbr⟩ := hrel
    have HV := Lib.hid hov
    have HB := Lib.hid hbr
    have HOK := Lib.hid (thereB_ok (roomN l) (fun t => (roomN_bound l t).1) (fun _ => True) (old.take k) fun _ _ => trivial)
    have hlen : (thereB (roomN l) (old.take k)).length ≤ 120 := HOK.out.len
    obtain ⟨oa, ocap, rfl, hoc, -⟩ := hov.opened
    clear hov hbr
    by_cases hlt : k < old.length
    · have hlt' : (k : Int) < old.length := by omega
      have HT := Lib.hid (thereB_take (roomN l) old k hlt)
      obtain ⟨a', cap', he, -, hx⟩ := (HO.out.below HB.out).opened
      cases he
      obtain ⟨b1, o1, rfl, c0, c1, c2⟩ := hx k hlt
      have lb := cell_lt c0
      clear hx
      generalize old[k] = x at *
      obtain ⟨⟨T, KB⟩, VB⟩ := x
      simp only at c0 c1 c2
      obtain ⟨S, hS⟩ : ∃ S, S = thereB (roomN l) (old.take k) := ⟨_, rfl⟩
      rw [← hS] at HT HV HOK hlen hoc ⊢
      clear hS
      go_upto_region 5 with fail
      go_cut [7] from 9 to 61 (fun d wx => d = .pointer (some ⟨wr.heap.size, 0, none⟩) ∧ wx.heap[wr.heap.size]? = some (.cells #[.int .i64 T, .string ⟨KB.toArray⟩, .string ⟨VB.toArray⟩] 108 (0, 0)) ∧ Below wr.heap.size wr wx)
      case first =>
        go_region
        all_goals
          go_wp2_with fail
          go_meet
          exact ⟨rfl, heap_new wr _, ((Below.rf wr).alloc (Nat.le_refl _) _).drew⟩
      case rest =>
        obtain ⟨rfl, hBx, hbx⟩ := hcut
        have HVc := Lib.hid (HV.out.below hbx)
        have HBc := Lib.hid (HB.out.tn hbx)
        have HD := Lib.hid hBx
        have d0 := cell_of_row _ _ 0 _ _ _ hBx
        have d1 := cell_of_row _ _ 1 _ _ _ hBx
        have d2 := cell_of_row _ _ 2 _ _ _ hBx
        have hlB := block_lt hBx
        have HSZ : Hid (wr.heap.size < wc.heap.size) := Lib.hid hlB
        clear c0 c1 c2 lb hBx hbx
        by_cases hin : 0 ≤ T ∧ T < 3
        · obtain ⟨hT0, hT3⟩ := hin
          have g0 : ¬ T < 0 := by omega
          have g2 : ¬ 2 < T := by omega
          have HTH : Hid (thereB (roomN l) (old.take (k + 1)) = if (getS (T, KB) S).isSome || decide ((countS T S : Int) < roomN l T.toNat) then putS (T, KB) VB S else S) := Lib.hid (by
            rw [HT.out]
            unfold thereStep
            rw [if_pos (show inTab ((T, KB), VB).1 from ⟨hT0, hT3⟩)])
          have HDL := Lib.hid (drop_lt (T, KB) HOK.out.sorted)
          have HWD := Lib.hid (withB_drop S ((T, KB), VB))
          have HWP := Lib.hid (withB_put HOK.out.sorted ((T, KB), VB))
          have HW := Lib.hid (fun (gone : Bool) W (hW : Below wc.heap.size wc W) => refWith_any (.slice oa S.length ocap) S ((T, KB), VB) gone W (HVc.out.below hW) (by omega))
          rw [entV_of] at HW
          go_wp2_with fail
          refine (HW.out true _ (Below.rf _)).mono ?_
          rintro e w2 ⟨v2, rfl, hown2, hb2⟩
          rw [HWD.out] at hown2
          obtain ⟨sa2, cap2, rfl⟩ := hown2.shape
          have HB2 := Lib.hid hb2
          have e0 := (hb2.cell (p := ⟨wr.heap.size, 0, none⟩) hlB).trans d0
          have e1 := (hb2.cell (p := ⟨wr.heap.size, 1, none⟩) hlB).trans d1
          have e2 := (hb2.cell (p := ⟨wr.heap.size, 2, none⟩) hlB).trans d2
          have hl2 : wr.heap.size < w2.heap.size := Nat.lt_of_lt_of_le hlB hb2.size
          clear hown2 hb2 d0 d1 d2
          obtain ⟨dl, hdl⟩ : ∃ dl, dl = (dropS (T, KB) S).length := ⟨_, rfl⟩
          rw [← hdl] at HDL ⊢
          clear hdl
          cases hg : (getS (T, KB) S).isSome with
          | true =>
            have hlt3 : (dl : Int) < S.length := by have := HDL.out.2 hg; omega
            have HTP : Hid (thereB (roomN l) (old.take (k + 1)) = putS (T, KB) VB S) := Lib.hid (by rw [HTH.out, hg]; rfl)
            clear hg
            have x0 : ∀ q, (w2.drewN q).cell? ⟨wr.heap.size, 0, none⟩ = some (.int .i64 T) := fun _ => e0
            have x1 : ∀ q, (w2.drewN q).cell? ⟨wr.heap.size, 1, none⟩ = some (.string ⟨KB.toArray⟩) := fun _ => e1
            have x2 : ∀ q, (w2.drewN q).cell? ⟨wr.heap.size, 2, none⟩ = some (.string ⟨VB.toArray⟩) := fun _ => e2
            have HBD : ∀ q, Hid (Below wc.heap.size wc (w2.drewN q)) := fun q => Lib.hid (HB2.out.drewN q)
            go_wp2_with fail
            go_quiet (fail)
            go_wp2_with fail
            refine (HW.out false _ (by first | exact HB2.out | exact HB2.out.drew | exact (HBD _).out)).mono ?_
            rintro e w3 ⟨v3, rfl, hown3, hb3⟩
            rw [HWP.out] at hown3
            have HE3 := Lib.hid hown3.ents
            obtain ⟨sa3, cap3, rfl⟩ := hown3.shape
            have HB3 : Hid (Below w.heap.size w w3) := Lib.hid (by first | exact (HBc.out.tn HB2.out).tn hb3 | exact (HBc.out.tn HB2.out.drew).tn hb3 | exact (HBc.out.tn (HBD _).out).tn hb3)
            clear hown3 hb3
            go_wp2
            go_roundw
            case rel => exact ⟨k + 1, by omega, by go_num, by rw [HTP.out]; exact HE3.out, HB3.out⟩
            case measure => simp [intOf]; omega
          | false =>
            have hge3 : ¬ (dl : Int) < S.length := fun h => by have := HDL.out.1 (by omega); rw [hg] at this; cases this
            have HTQ : Hid (thereB (roomN l) (old.take (k + 1)) = if (countS T S : Int) < roomN l T.toNat then putS (T, KB) VB S else S) := Lib.hid (by
              rw [HTH.out, hg]
              simp only [Bool.false_or, decide_eq_true_eq])
            have HCN := Lib.hid (fun W (hW : Below wc.heap.size wc W) => refCount_any (.slice oa S.length ocap) S T W (HVc.out.below hW) (by omega))
            have HRR := (HR.out.below HBc.out).below HB2.out
            obtain ⟨-, ra', rcap', he, -, hrx⟩ := HRR
            cases he
            have hroom : ∃ b o rm, ra = some ⟨b, o, none⟩ ∧ w2.cell? ⟨b, o + T.toNat, none⟩ = some (.int .i64 rm) ∧ rm = roomN l T.toNat := by
              obtain ⟨b, o, e, c⟩ := hrx T.toNat (by simp; omega)
              obtain h | h | h : T.toNat = 0 ∨ T.toNat = 1 ∨ T.toNat = 2 := by omega
              · exact ⟨b, o, roomN l 0, e, by rw [c]; simp [h], by rw [h]⟩
              · exact ⟨b, o, roomN l 1, e, by rw [c]; simp [h], by rw [h]⟩
              · exact ⟨b, o, roomN l 2, e, by rw [c]; simp [h], by rw [h]⟩
            obtain ⟨rb, ro, rm, rfl, rc0, hrm⟩ := hroom
            have HRM := Lib.hid hrm
            have hrl := cell_lt rc0
            clear hg hrx hrm
            obtain ⟨tn, htn⟩ := Int.eq_ofNat_of_zero_le hT0
            subst htn
            rw [Int.toNat_natCast] at rc0 HRM
            have hbb : decide ((dl : Int) < (S.length : Int)) = false := decide_eq_false hge3
            have hbn : decide (dl < S.length) = false := decide_eq_false (by omega)
            go_upto_region 8 with fail
            go_region_held3 (fun w' => w'.cell? ⟨wr.heap.size, 0, none⟩ = some (.int .i64 (tn : Int)) ∧ w'.cell? ⟨rb, ro + tn, none⟩ = some (.int .i64 rm))
              (first | exact ⟨e0, rc0⟩ | exact ⟨(HBb.out.cell (p := ⟨wr.heap.size, 0, none⟩) hl2).trans e0, (HBb.out.cell (p := ⟨rb, ro + tn, none⟩) hrl).trans rc0⟩)
              (first | (go_at_call 56; refine (HCN.out _ (by first | exact HB2.out | exact HB2.out.drew)).mono ?_; rintro e w3 ⟨rfl, hb3⟩; have HBb : Hid (Below w2.heap.size w2 w3) := Lib.hid (by first | exact hb3 | exact (Below.rf w2).drew.tn hb3); clear hb3))
            have f0 := (HBb.out.cell (p := ⟨wr.heap.size, 0, none⟩) hl2).trans e0
            have f1 := (HBb.out.cell (p := ⟨wr.heap.size, 1, none⟩) hl2).trans e1
            have f2 := (HBb.out.cell (p := ⟨wr.heap.size, 2, none⟩) hl2).trans e2
            have hl3 : wr.heap.size < w3.heap.size := Nat.lt_of_lt_of_le hl2 HBb.out.size
            clear e0 e1 e2 rc0
            by_cases hlt4 : countS (tn : Int) S < rm
            · have HTP : Hid (thereB (roomN l) (old.take (k + 1)) = putS ((tn : Int), KB) VB S) := Lib.hid (by rw [HTQ.out, Int.toNat_natCast, if_pos (by rw [← HRM.out]; exact hlt4)])
              go_wp2_with fail
              refine (HW.out false _ (HB2.out.tn HBb.out)).mono ?_
              rintro e w4 ⟨v3, rfl, hown3, hb3⟩
              rw [HWP.out] at hown3
              have HE3 := Lib.hid hown3.ents
              obtain ⟨sa3, cap3, rfl⟩ := hown3.shape
              have HB3 : Hid (Below w.heap.size w w4) := Lib.hid ((HBc.out.tn (HB2.out.tn HBb.out)).tn hb3)
              clear hown3 hb3
              go_wp2
              go_roundw
              case rel => exact ⟨k + 1, by omega, by go_num, by rw [HTP.out]; exact HE3.out, HB3.out⟩
              case measure => simp [intOf]; omega
            · have HTP : Hid (thereB (roomN l) (old.take (k + 1)) = S) := Lib.hid (by rw [HTQ.out, Int.toNat_natCast, if_neg (by rw [← HRM.out]; exact hlt4)])
              go_wp2
              go_roundw
              case rel => exact ⟨k + 1, by omega, by go_num, by rw [HTP.out]; exact HVc.out.below (HB2.out.tn HBb.out), HBc.out.tn (HB2.out.tn HBb.out)⟩
              case measure => simp [intOf]; omega
        · have hend : T < 0 ∨ (¬ T < 0 ∧ 2 < T) := by omega
          have HTN : Hid (thereB (roomN l) (old.take (k + 1)) = S) := Lib.hid (by
            rw [HT.out]
            unfold thereStep
            rw [if_neg (show ¬ inTab ((T, KB), VB).1 from hin)])
          clear hin
          rcases hend with h0 | ⟨h0, h2⟩
          all_goals
            go_wp2
            go_roundw
            case rel => exact ⟨k + 1, by omega, by go_num, by rw [HTN.out]; exact HVc.out, HBc.out⟩
            case measure => simp [intOf]; omega
    · obtain rfl : k = old.length := by omega
      have hge : ¬ (old.length : Int) < old.length := by omega
      rw [List.take_length] at HV hlen ⊢
      generalize (thereB (roomN l) old).length = n at *
      go_wp2
      go_ret
      exact ⟨_, rfl, HV.out, HB.out⟩
/-- what Done has told behind so many -/
def doneH (h t : List E) (k : Nat) : List (List UInt8) := (dropL (h.take k) t).map fun x => dropText x.1
def doneW (h t : List E) (k : Nat) : List (List UInt8) := (dropL h t).map (fun x => dropText x.1) ++ (putL h (t.take k)).map fun x => putText x.1 x.2
theorem done_end (h t : List E) : doneW h t t.length = doneT h t := by
  unfold doneW doneT opsB dropOps putOps
  rw [List.take_length, List.map_append, List.map_map, List.map_map]
  rfl
theorem done_mid (h t : List E) : doneH h t h.length = doneW h t 0 := by
  unfold doneH doneW
  rw [List.take_length, List.take_zero]
  simp [putL]
theorem doneH_go (h t : List E) (k : Nat) (hk : k < h.length) : doneH h t (k + 1) = doneH h t k ++ if (getS h[k].1 t).isNone then [dropText h[k].1] else [] := by
  unfold doneH
  rw [dropL_take h t k hk, List.map_append]
  split <;> rfl
theorem doneW_go (h t : List E) (k : Nat) (hk : k < t.length) : doneW h t (k + 1) = doneW h t k ++ if t[k] ∈ h then [] else [putText t[k].1 t[k].2] := by
  unfold doneW
  rw [putL_take h t k hk, List.map_append, List.append_assoc]
  split <;> rfl
theorem doneH_len (h t : List E) (k : Nat) : (doneH h t k).length ≤ k := by
  unfold doneH dropL
  rw [List.length_map]
  have := List.length_filter_le (fun x : E => (getS x.1 t).isNone) (h.take k)
  rw [List.length_take] at this
  omega
theorem doneW_len (h t : List E) (k : Nat) : (doneW h t k).length ≤ h.length + k := by
  unfold doneW dropL putL
  rw [List.length_append, List.length_map, List.length_map]
  have h1 := List.length_filter_le (fun x : E => (getS x.1 t).isNone) h
  have h2 := List.length_filter_le (fun x : E => !decide (x ∈ h)) (t.take k)
  rw [List.length_take] at h2
  omega
end Go.Proofs.YtkkfmkhbdoeglabGreatDoor
namespace Go.Proofs.YtkkfmkhbdoeglabGreatDoor
open Go.RowKit
theorem cellsFrame {w w' : World} {v : Value} {e : TypeId} (h : CellsOf w v e) (hv : ∀ b, v.ownBlock = some b → b < w.heap.size) (hb : Below w.heap.size w w') : CellsOf w' v e := fun b hb' => by
  obtain ⟨C, fz, hC⟩ := h b hb'
  exact ⟨C, fz, below_at hb (hv b hb') hC⟩
/-- texts of one's own, one behind the other -/
structure OwnT (w : World) (base : Nat) (v : Value) (l : List (List UInt8)) : Prop where
  own : OwnS w base 1 v l.length (strsV l)
  typ : CellsOf w v 9
theorem OwnT.nil (w : World) (base : Nat) : OwnT w base (.slice none 0 0) [] := ⟨OwnS.nil _ _ _, CellsOf.nil _ _⟩
theorem OwnT.below {w w' : World} {base : Nat} {v : Value} {l : List (List UInt8)} (h : OwnT w base v l) (hb : Below w.heap.size w w') : OwnT w' base v l :=
  ⟨h.own.below hb, cellsFrame h.typ (fun b e => OwnS.ownBlock_lt h.own b e) hb⟩
theorem strOne_of {w : World} {b : Nat} {s : List UInt8} (h : w.heap[b]? = some (.cells #[.string ⟨s.toArray⟩] 9 (0, 0))) : SliceAt w (.slice (some ⟨b, 0, none⟩) 1 1) 1 1 (strsV [s]) := by
  refine ⟨rfl, _, 1, rfl, Nat.le_refl _, fun i hi => ⟨_, 0, rfl, ?_⟩⟩
  obtain rfl : i = 0 := by simp [strsV] at hi; omega
  exact cell_of_row _ _ 0 _ _ _ h
theorem heap_second (w : World) (o o' : Obj) : ((w.alloc o).alloc o').heap[w.heap.size + 1]? = some o' := by
  have := heap_new (w.alloc o) o'
  rwa [World.size_alloc] at this
/-- a text more: a row of bytes, a text of it, a slice of that text -/
theorem wp_append_text {o : Oper} {a : Act} {K : Act → World → Prop} {Q : Exit → Act → World → Prop} {w w0 : World} (s x : Operand)
    (ho : o.op = .call { callee := .builtin .append, args := #[s, x], argTypes := #[28, 28] })
    (base : Nat) (v : Value) (n : Nat) (l : List (List UInt8)) (hn : n = l.length) (hv : a.eval s = v) (hown : OwnT w0 base v l) (hb : Below w0.heap.size w0 w) (m : List UInt8) (hs : SliceAt w (a.eval x) 1 1 (strsV [m]))
    (hlen : l.length + 1 ≤ 8796093022208) (hbase : base ≤ w0.heap.size)
    (h : ∀ v' w', OwnT w' base v' (l ++ [m]) → Below base w0 w' → K (a.put o.dst v') w') : o.wp Tryz.prog a w K Q := by
  subst hn
  have hT := hown.below hb
  obtain ⟨i0, hi, hz0, hz1, hz2⟩ := info_parts infoStr
  have hmx : maxLen = 9223372036854775807 := rfl
  refine wp_append_own_srcA s x _ _ ho base 1 9 i0 (.string ⟨#[]⟩) Tryz.underlying28 hi hz0 hz1 (by rw [hz1]; rfl) (by omega) v l.length (strsV l) hv hT.own hT.typ 1 (strsV [m]) (SliceAt.src Tryz.underlying28 hs (strsV_one [m])) (by omega) (by rw [hz2]; omega) (Nat.le_trans hbase hb.size) (fun v' w' h1 h2 h3 h4 => ?_)
  rw [← strsV_append] at h1
  exact h v' w' ⟨by simpa using h1, h3⟩ ((hb.mono hbase).trans (below_of_grown hT.own h2 (Nat.le_trans hbase hb.size)))
theorem step_append_text {ops : Array Oper} {o : Oper} {a : Act} {K : Act → World → Prop} {Q : Exit → Act → World → Prop} {X : Prop} {w w0 : World} (hgd : o.guard = none) (s x : Operand)
    (ho : o.op = .call { callee := .builtin .append, args := #[s, x], argTypes := #[28, 28] })
    (base : Nat) (v : Value) (n : Nat) (l : List (List UInt8)) (hn : n = l.length) (hv : a.eval s = v) (hown : OwnT w0 base v l) (hb : Below w0.heap.size w0 w) (m : List UInt8) (hs : SliceAt w (a.eval x) 1 1 (strsV [m]))
    (hlen : l.length + 1 ≤ 8796093022208) (hbase : base ≤ w0.heap.size)
    (h : ∀ v' w', OwnT w' base v' (l ++ [m]) → Below base w0 w' → K (a.put o.dst v') w') : if Region.wanted o (yielded ops a.tmps) = true then Oper.wp Tryz.prog o a w K Q else X := by
  have hw : Region.wanted o (yielded ops a.tmps) = true := by simp [Region.wanted, hgd]
  rw [if_pos hw]
  exact wp_append_text s x ho base v n l hn hv hown hb m hs hlen hbase h
set_option maxRecDepth 100000 in
set_option maxHeartbeats 4000000 in
theorem refDone_any (hv wv : Value) (h t : List E) (w : World) (hh : EntsAt w hv h) (ht : EntsAt w wv t) (hl : h.length ≤ 1000000) (tl : t.length ≤ 1000000) (hhk : ∀ x ∈ h, x.1.2.length ≤ maxB ∧ x.2.length ≤ maxB) (htk : ∀ x ∈ t, x.1.2.length ≤ maxB ∧ x.2.length ≤ maxB) :
    Calls Tryz.prog 15 #[hv, wv] w fun e w' => ∃ v, e = .returned v ∧ SliceAt w' v 1 (doneT h t).length (strsV (doneT h t)) ∧ Below w.heap.size w w' := by
  have HH := Lib.hid hh
  have HT := Lib.hid ht
  obtain ⟨a, cap, rfl, hac, -⟩ := hh.opened
  obtain ⟨a2, cap2, rfl, hac2, -⟩ := ht.opened
  have HHK := Lib.hid hhk
  have HTK := Lib.hid htk
  clear hh ht hhk htk
  go_enter Tryz.func15, Tryz.ntmps15
  go_wp2_with fail
  go_loopw [5, 6] (fun ov i wr => ∃ k : Nat, k ≤ h.length ∧ i = .int .i64 (k : Int) ∧ OwnT wr w.heap.size ov (doneH h t k) ∧ Below w.heap.size w wr) (fun _ i _ => h.length - (intOf i).toNat)
  case atStart => exact ⟨0, Nat.zero_le _, rfl, by unfold doneH dropL; exact OwnT.nil _ _, Below.refl _ _⟩
  case round =>
    obtain ⟨k, hk, rfl, hov, hbr⟩ := hrel
    have HO := Lib.hid hov
    have HB := Lib.hid hbr
    have HLN := Lib.hid (doneH_len h t k)
    obtain ⟨oa, ocap, rfl⟩ := hov.own.shape
    clear hov hbr
    by_cases hlt : k < h.length
    · have hlt' : (k : Int) < h.length := by omega
      obtain ⟨a', cap', he, -, hx⟩ := HH.out.opened
      cases he
      obtain ⟨b1, o1, rfl, C0, C1, C2⟩ := hx k hlt
      have lbw : b1 < w.heap.size := cell_lt C0
      have c0 := (HB.out.cell (p := ⟨b1, o1 + k * 3, none⟩) lbw).trans C0
      have c1 := (HB.out.cell (p := ⟨b1, o1 + k * 3 + 1, none⟩) lbw).trans C1
      have c2 := (HB.out.cell (p := ⟨b1, o1 + k * 3 + 2, none⟩) lbw).trans C2
      have lb := cell_lt c0
      clear C0 C1 C2
      clear hx
      have HHE := Lib.hid (fun W (hW : Below wr.heap.size wr W) => refHeld_any (.slice a2 t.length cap2) t h[k] W ((HT.out.below HB.out).below hW) (by omega))
      have HGO := Lib.hid (doneH_go h t k hlt)
      have HXK := Lib.hid (HHK.out _ (List.getElem_mem hlt))
      generalize hlk : h[k] = x at *
      rw [entV_of] at HHE
      clear hlk
      obtain ⟨⟨T, KB⟩, VB⟩ := x
      go_wp2_with fail
      refine (HHE.out _ (Below.rf _)).mono ?_
      rintro e w2 ⟨rfl, hb2⟩
      have d0 := (hb2.cell (p := ⟨b1, o1 + k * 3, none⟩) lb).trans c0
      have d1 := (hb2.cell (p := ⟨b1, o1 + k * 3 + 1, none⟩) lb).trans c1
      have HB2 := Lib.hid hb2
      have ls := Nat.lt_of_lt_of_le lb hb2.size
      clear c0 c1 c2 hb2 lb
      cases hg : (getS (T, KB) t).isSome with
      | true =>
        have HN2 : Hid (doneH h t (k + 1) = doneH h t k) := Lib.hid (by rw [HGO.out, if_neg (by rw [Option.isNone_eq_false_iff.2 hg]; decide), List.append_nil])
        clear hg
        go_wp2
        go_roundw
        case rel => exact ⟨k + 1, by omega, by go_num, by rw [HN2.out]; exact HO.out.below HB2.out, HB.out.tn HB2.out⟩
        case measure => simp [intOf]; omega
      | false =>
        have hnn : (getS (T, KB) t).isNone = true := by rw [Option.isNone_iff_eq_none]; exact Option.not_isSome_iff_eq_none.1 (by rw [hg]; decide)
        have HN2 : Hid (doneH h t (k + 1) = doneH h t k ++ [dropText (T, KB)]) := Lib.hid (by rw [HGO.out, if_pos hnn])
        clear hg hnn
        have HK := Lib.hid (byteI_wrap T)
        have hone : ∀ W : World, BytesAt (W.alloc (.cells #[.int .u8 (IntKind.u8.wrap T)] 5)) (.slice (some ⟨W.heap.size, 0, none⟩) 1 1) [byteI T] := fun W => by rw [← HK.out]; exact one_at W (byteI T)
        have k0 := (BytesAt.drewN (hone w2) 1).convert
        have k0' := (hone w2).convert
        have k1 := (hone w2.drew).convert
        rw [show ∀ w : World, w.drewN 1 = w.drew from fun _ => rfl] at k0
        have hmb : maxB ≤ 1000000000000000000 := by decide
        have hkl := HXK.out.1
        have ha1 := fun W => str_add (P := Tryz.prog) [100, 114, 111, 112, 32] [byteI T] (by simp) W
        have ha2 := fun W => str_add (P := Tryz.prog) [100, 114, 111, 112, 32, byteI T] KB (by simp; omega) W
        have HO2 := Lib.hid (HO.out.below HB2.out)
        have HBS : Hid (w.heap.size ≤ w2.heap.size) := Lib.hid (HB.out.tn HB2.out).size
        go_upto_region 7 with fail
        have hcv := BytesAt.convert (w := (w2.alloc (.cells #[.int .u8 (IntKind.u8.wrap T)] 5)).drew) (hone w2)
        have HSA := fun o => Lib.hid (show _ ∧ _ from ⟨cellAl o d0, cellAl o d1⟩)
        have HSB := fun o o' => Lib.hid (show _ ∧ _ from ⟨cellAl o' (cellAl o d0), cellAl o' (cellAl o d1)⟩)
        refine wp_region_last (n := 18) (S := (fun w' => w'.cell? ⟨b1, o1 + k * 3, none⟩ = some (.int .i64 T) ∧ w'.cell? ⟨b1, o1 + k * 3 + 1, none⟩ = some (.string ⟨KB.toArray⟩))) (by kernel_rfl) (by kernel_rfl) rfl (by first | exact ⟨d0, d1⟩ | exact (HSA _).out | exact (HSB _ _).out | exact ⟨(HB8.out.cell (p := ⟨b1, o1 + k * 3, none⟩) lbw).trans d0, (HB8.out.cell (p := ⟨b1, o1 + k * 3 + 1, none⟩) lbw).trans d1⟩) ?_
        intro hSw0
        simp only [List.extract_toArray, List.extract_eq_take_drop, List.drop_zero, Nat.sub_zero, List.take_succ_cons, List.take_zero, Array.replicate_succ, Array.replicate_zero, List.push_toArray, List.append_toArray, List.nil_append, List.cons_append]
        refine wpAnyH_take (i := 0) (v := ?_) rfl (by kernel_rfl) (by kernel_rfl) (by kernel_rfl) (fun _ _ _ h => h) (Or.inl ⟨by rfl, ?_⟩) (by assumption) ?_
        rotate_left 1
        · (intro w hSw; (try dsimp only at hSw); go_simp; (try with_reducible rfl))
        try simp only [Act.put, List.setIfInBounds_toArray, List.set_cons_zero, List.set_cons_succ]
        refine wpAnyH_take (i := 1) (v := ?_) rfl (by kernel_rfl) (by kernel_rfl) (by kernel_rfl) (fun _ _ _ h => h) (Or.inl ⟨by rfl, ?_⟩) (by assumption) ?_
        rotate_left 1
        · (intro w hSw; (try dsimp only at hSw); go_simp; (try with_reducible rfl))
        try simp only [Act.put, List.setIfInBounds_toArray, List.set_cons_zero, List.set_cons_succ]
        refine wpAnyH_take (i := 2) (v := ?_) rfl (by kernel_rfl) (by kernel_rfl) (by kernel_rfl) (fun _ _ _ h => h) (Or.inl ⟨by rfl, ?_⟩) (by assumption) ?_
        rotate_left 1
        · (intro w hSw; (try dsimp only at hSw); go_simp; (try with_reducible rfl))
        try simp only [Act.put, List.setIfInBounds_toArray, List.set_cons_zero, List.set_cons_succ]
        refine wpAnyH_take (i := 3) (v := ?_) rfl (by kernel_rfl) (by kernel_rfl) (by kernel_rfl) (fun _ _ _ h => h) (Or.inl ⟨by rfl, ?_⟩) (by assumption) ?_
        rotate_left 1
        · (intro w hSw; (try dsimp only at hSw); go_simp; (try with_reducible rfl))
        try simp only [Act.put, List.setIfInBounds_toArray, List.set_cons_zero, List.set_cons_succ]
        refine wpAnyH_take (i := 4) (v := ?_) rfl (by kernel_rfl) (by kernel_rfl) (by kernel_rfl) (fun _ _ _ h => h) (Or.inl ⟨by rfl, ?_⟩) (by assumption) ?_
        rotate_left 1
        · (intro w hSw; (try dsimp only at hSw); go_simp; (try with_reducible rfl))
        try simp only [Act.put, List.setIfInBounds_toArray, List.set_cons_zero, List.set_cons_succ]
        refine wpAnyH_take (i := 5) (v := ?_) rfl (by kernel_rfl) (by kernel_rfl) (by kernel_rfl) (fun _ _ _ h => h) (Or.inl ⟨by rfl, ?_⟩) (by assumption) ?_
        rotate_left 1
        · (intro w hSw; (try dsimp only at hSw); go_simp; (try with_reducible rfl))
        try simp only [Act.put, List.setIfInBounds_toArray, List.set_cons_zero, List.set_cons_succ]
        refine wpAnyH_take (i := 6) (v := ?_) rfl (by kernel_rfl) (by kernel_rfl) (by kernel_rfl) (fun _ _ _ h => h) (Or.inl ⟨by rfl, ?_⟩) (by assumption) ?_
        rotate_left 1
        · (intro w hSw; (try dsimp only at hSw); go_simp; (try with_reducible rfl))
        try simp only [Act.put, List.setIfInBounds_toArray, List.set_cons_zero, List.set_cons_succ]
        refine wpAnyH_take (i := 10) (v := ?_) rfl (by kernel_rfl) (by kernel_rfl) (by kernel_rfl) (fun _ _ _ h => h) (Or.inl ⟨by rfl, ?_⟩) (by assumption) ?_
        rotate_left 1
        · (intro w hSw; (try dsimp only at hSw); go_simp; (try with_reducible rfl))
        try simp only [Act.put, List.setIfInBounds_toArray, List.set_cons_zero, List.set_cons_succ]
        refine wpAnyH_take (i := 11) (v := ?_) rfl (by kernel_rfl) (by kernel_rfl) (by kernel_rfl) (fun _ _ _ h => h) (Or.inl ⟨by rfl, ?_⟩) (by assumption) ?_
        rotate_left 1
        · (intro w hSw; (try dsimp only at hSw); go_simp; (try with_reducible rfl))
        try simp only [Act.put, List.setIfInBounds_toArray, List.set_cons_zero, List.set_cons_succ]
        refine wpAnyH_take (i := 12) (v := ?_) rfl (by kernel_rfl) (by kernel_rfl) (by kernel_rfl) (fun _ _ _ h => h) (Or.inl ⟨by rfl, ?_⟩) (by assumption) ?_
        rotate_left 1
        · (intro w hSw; (try dsimp only at hSw); go_simp; (try with_reducible rfl))
        try simp only [Act.put, List.setIfInBounds_toArray, List.set_cons_zero, List.set_cons_succ]
        refine wpAnyH_take (i := 13) (v := ?_) rfl (by kernel_rfl) (by kernel_rfl) (by kernel_rfl) (fun _ _ _ h => h) (Or.inl ⟨by rfl, ?_⟩) (by assumption) ?_
        rotate_left 1
        · (intro w hSw; (try dsimp only at hSw); go_simp; (try with_reducible rfl))
        try simp only [Act.put, List.setIfInBounds_toArray, List.set_cons_zero, List.set_cons_succ]
        refine wpAnyH_take (i := 14) (v := ?_) rfl (by kernel_rfl) (by kernel_rfl) (by kernel_rfl) (fun _ _ _ h => h) (Or.inl ⟨by rfl, ?_⟩) (by assumption) ?_
        rotate_left 1
        · (intro w hSw; (try dsimp only at hSw); go_simp; (try with_reducible rfl))
        try simp only [Act.put, List.setIfInBounds_toArray, List.set_cons_zero, List.set_cons_succ]
        refine wpAnyH_ready (rs := [7]) (by kernel_rfl) (by simp) ?_
        refine AllReadyH.cons rfl ?_ AllReadyH.nil
        intro K' hK'
        go_simp
        refine hK'.out _ _ (by first | exact ⟨d0, d1⟩ | exact (HSA _).out | exact (HSB _ _).out | exact ⟨(HB8.out.cell (p := ⟨b1, o1 + k * 3, none⟩) lbw).trans d0, (HB8.out.cell (p := ⟨b1, o1 + k * 3 + 1, none⟩) lbw).trans d1⟩) ?_
        clear hK' K'
        intro hSw1
        try simp only [Act.put, List.setIfInBounds_toArray, List.set_cons_zero, List.set_cons_succ]
        refine wpAnyH_ready (rs := [8]) (by kernel_rfl) (by simp) ?_
        refine AllReadyH.cons rfl ?_ AllReadyH.nil
        intro K' hK'
        go_simp
        refine hK'.out _ _ (by first | exact ⟨d0, d1⟩ | exact (HSA _).out | exact (HSB _ _).out | exact ⟨(HB8.out.cell (p := ⟨b1, o1 + k * 3, none⟩) lbw).trans d0, (HB8.out.cell (p := ⟨b1, o1 + k * 3 + 1, none⟩) lbw).trans d1⟩) ?_
        clear hK' K'
        intro hSw2
        try simp only [Act.put, List.setIfInBounds_toArray, List.set_cons_zero, List.set_cons_succ]
        refine wpAnyH_take (i := 9) (v := ?_) rfl (by kernel_rfl) (by kernel_rfl) (by kernel_rfl) (fun _ _ _ h => h) (Or.inl ⟨by rfl, ?_⟩) (by assumption) ?_
        rotate_left 1
        · (intro w hSw; (try dsimp only at hSw); go_simp; (try with_reducible rfl))
        try simp only [Act.put, List.setIfInBounds_toArray, List.set_cons_zero, List.set_cons_succ]
        refine wpAnyH_take (i := 15) (v := ?_) rfl (by kernel_rfl) (by kernel_rfl) (by kernel_rfl) (fun _ _ _ h => h) (Or.inl ⟨by rfl, ?_⟩) (by assumption) ?_
        rotate_left 1
        · (intro w hSw; (try dsimp only at hSw); go_simp; (try with_reducible rfl))
        try simp only [Act.put, List.setIfInBounds_toArray, List.set_cons_zero, List.set_cons_succ]
        refine wpAnyH_ready (rs := [16]) (by kernel_rfl) (by simp) ?_
        refine AllReadyH.cons rfl ?_ AllReadyH.nil
        intro K' hK'
        go_simp
        refine hK'.out _ _ (by first | exact ⟨d0, d1⟩ | exact (HSA _).out | exact (HSB _ _).out | exact ⟨(HB8.out.cell (p := ⟨b1, o1 + k * 3, none⟩) lbw).trans d0, (HB8.out.cell (p := ⟨b1, o1 + k * 3 + 1, none⟩) lbw).trans d1⟩) ?_
        clear hK' K'
        intro hSw3
        try simp only [Act.put, List.setIfInBounds_toArray, List.set_cons_zero, List.set_cons_succ]
        refine wpAnyH_ready (rs := [17]) (by kernel_rfl) (by simp) ?_
        refine AllReadyH.cons rfl ?_ AllReadyH.nil
        intro K' hK'
        refine step_append_text rfl (.tmp 24) (.tmp 40) rfl w.heap.size (.slice oa (doneH h t k).length ocap) (doneH h t k).length (doneH h t k) rfl rfl HO2.out (by exact Below.drew (Below.al (Below.al (Below.rf _) _) _)) (100 :: 114 :: 111 :: 112 :: 32 :: byteI T :: KB) (strOne_of (by exact heap_second _ _ _)) (by have := HLN.out; omega) HBS.out ?_; intro v8 w8 ho8 hb8; have HO8 := Lib.hid ho8; have HB8 := Lib.hid hb8; obtain ⟨oa8, ocap8, rfl⟩ := ho8.own.shape
        refine hK'.out _ _ (by first | exact ⟨d0, d1⟩ | exact (HSA _).out | exact (HSB _ _).out | exact ⟨(HB8.out.cell (p := ⟨b1, o1 + k * 3, none⟩) lbw).trans d0, (HB8.out.cell (p := ⟨b1, o1 + k * 3 + 1, none⟩) lbw).trans d1⟩) ?_
        clear hK' K'
        intro hSw4
        try simp only [Act.put, List.setIfInBounds_toArray, List.set_cons_zero, List.set_cons_succ]
        refine wpAnyH_done (by kernel_rfl) ?_ _
        show Oper.wp _ _ _ _ _ _
        go_wp2
        go_roundw
        case rel => exact ⟨k + 1, by omega, by go_num, by rw [HN2.out]; have h8 := HO8.out; rw [List.length_append] at h8; exact h8, (HB.out.tn HB2.out).trans HB8.out⟩
        case measure => simp [intOf]; omega
    · obtain rfl : k = h.length := by omega
      have hge : ¬ (h.length : Int) < h.length := by omega
      have HOM : Hid (OwnT wr w.heap.size (.slice oa (doneH h t h.length).length ocap) (doneW h t 0)) := Lib.hid (by rw [← done_mid]; exact HO.out)
      clear HO
      generalize (doneH h t h.length).length = ol0 at *
      generalize wr = w0 at *
      go_wp2_with fail
      go_loopw [5, 8] (fun ov i wr => ∃ k : Nat, k ≤ t.length ∧ i = .int .i64 (k : Int) ∧ OwnT wr w.heap.size ov (doneW h t k) ∧ Below w.heap.size w wr) (fun _ i _ => t.length - (intOf i).toNat)
      case atStart => exact ⟨0, Nat.zero_le _, rfl, HOM.out, HB.out⟩
      case round =>
        clear HB HOM
        obtain ⟨k, hk, rfl, hov, hbr⟩ := hrel
        have HO := Lib.hid hov
        have HB := Lib.hid hbr
        have HLN := Lib.hid (doneW_len h t k)
        obtain ⟨oa, ocap, rfl⟩ := hov.own.shape
        clear hov hbr
        by_cases hlt : k < t.length
        · have hlt' : (k : Int) < t.length := by omega
          obtain ⟨a', cap', he, -, hx⟩ := HT.out.opened
          cases he
          obtain ⟨b1, o1, rfl, C0, C1, C2⟩ := hx k hlt
          have lbw : b1 < w.heap.size := cell_lt C0
          have c0 := (HB.out.cell (p := ⟨b1, o1 + k * 3, none⟩) lbw).trans C0
          have c1 := (HB.out.cell (p := ⟨b1, o1 + k * 3 + 1, none⟩) lbw).trans C1
          have c2 := (HB.out.cell (p := ⟨b1, o1 + k * 3 + 2, none⟩) lbw).trans C2
          have lb := cell_lt c0
          clear C0 C1 C2
          clear hx
          have HHE := Lib.hid (fun W (hW : Below wr.heap.size wr W) => refHas_any (.slice a h.length cap) h t[k] W ((HH.out.below HB.out).below hW) (by omega))
          have HGO := Lib.hid (doneW_go h t k hlt)
          have HXK := Lib.hid (HTK.out _ (List.getElem_mem hlt))
          generalize hlk : t[k] = x at *
          rw [entV_of] at HHE
          clear hlk
          obtain ⟨⟨T, KB⟩, VB⟩ := x
          go_wp2_with fail
          refine (HHE.out _ (Below.rf _)).mono ?_
          rintro e w2 ⟨rfl, hb2⟩
          have d0 := (hb2.cell (p := ⟨b1, o1 + k * 3, none⟩) lb).trans c0
          have d1 := (hb2.cell (p := ⟨b1, o1 + k * 3 + 1, none⟩) lb).trans c1
          have d2 := (hb2.cell (p := ⟨b1, o1 + k * 3 + 2, none⟩) lb).trans c2
          have HB2 := Lib.hid hb2
          have ls := Nat.lt_of_lt_of_le lb hb2.size
          clear c0 c1 c2 hb2 lb
          by_cases hm : ((T, KB), VB) ∈ h
          · have HN2 : Hid (doneW h t (k + 1) = doneW h t k) := Lib.hid (by rw [HGO.out, if_pos hm, List.append_nil])
            rw [decide_eq_true hm]
            clear hm
            go_wp2
            go_roundw
            case rel => exact ⟨k + 1, by omega, by go_num, by rw [HN2.out]; exact HO.out.below HB2.out, HB.out.tn HB2.out⟩
            case measure => simp [intOf]; omega
          · have HN2 : Hid (doneW h t (k + 1) = doneW h t k ++ [putText (T, KB) VB]) := Lib.hid (by rw [HGO.out, if_neg hm])
            rw [decide_eq_false hm]
            clear hm
            have HK := Lib.hid (byteI_wrap T)
            have hone : ∀ W : World, BytesAt (W.alloc (.cells #[.int .u8 (IntKind.u8.wrap T)] 5)) (.slice (some ⟨W.heap.size, 0, none⟩) 1 1) [byteI T] := fun W => by rw [← HK.out]; exact one_at W (byteI T)
            have hmb : maxB ≤ 1000000000000000000 := by decide
            have hkl : KB.length ≤ maxB := HXK.out.1
            have hvl : VB.length ≤ maxB := HXK.out.2
            have ha1 := fun W => str_add (P := Tryz.prog) [112, 117, 116, 32] [byteI T] (by simp) W
            have ha2 := fun W => str_add (P := Tryz.prog) [112, 117, 116, 32, byteI T] KB (by simp; omega) W
            have ha3 := fun W => str_add (P := Tryz.prog) (112 :: 117 :: 116 :: 32 :: byteI T :: KB) [61] (by simp; omega) W
            have ha4 := fun W => str_add (P := Tryz.prog) (112 :: 117 :: 116 :: 32 :: byteI T :: (KB ++ [61])) VB (by simp; omega) W
            have HO2 := Lib.hid (HO.out.below HB2.out)
            have HBS : Hid (w.heap.size ≤ w2.heap.size) := Lib.hid (HB.out.tn HB2.out).size
            go_upto_region 13 with fail
            have hcv := BytesAt.convert (w := (w2.alloc (.cells #[.int .u8 (IntKind.u8.wrap T)] 5)).drew) (hone w2)
            have HSA := fun o => Lib.hid (show _ ∧ _ ∧ _ from ⟨cellAl o d0, cellAl o d1, cellAl o d2⟩)
            have HSB := fun o o' => Lib.hid (show _ ∧ _ ∧ _ from ⟨cellAl o' (cellAl o d0), cellAl o' (cellAl o d1), cellAl o' (cellAl o d2)⟩)
            refine wp_region_last (n := 25) (S := (fun w' => w'.cell? ⟨b1, o1 + k * 3, none⟩ = some (.int .i64 T) ∧ w'.cell? ⟨b1, o1 + k * 3 + 1, none⟩ = some (.string ⟨KB.toArray⟩) ∧ w'.cell? ⟨b1, o1 + k * 3 + 2, none⟩ = some (.string ⟨VB.toArray⟩))) (by kernel_rfl) (by kernel_rfl) rfl (by first | exact ⟨d0, d1, d2⟩ | exact (HSA _).out | exact (HSB _ _).out | exact ⟨(HB8.out.cell (p := ⟨b1, o1 + k * 3, none⟩) lbw).trans d0, (HB8.out.cell (p := ⟨b1, o1 + k * 3 + 1, none⟩) lbw).trans d1, (HB8.out.cell (p := ⟨b1, o1 + k * 3 + 2, none⟩) lbw).trans d2⟩) ?_
            intro hSw0
            simp only [List.extract_toArray, List.extract_eq_take_drop, List.drop_zero, Nat.sub_zero, List.take_succ_cons, List.take_zero, Array.replicate_succ, Array.replicate_zero, List.push_toArray, List.append_toArray, List.nil_append, List.cons_append]
            refine wpAnyH_take (i := 0) (v := ?_) rfl (by kernel_rfl) (by kernel_rfl) (by kernel_rfl) (fun _ _ _ h => h) (Or.inl ⟨by rfl, ?_⟩) (by assumption) ?_
            rotate_left 1
            · (intro w hSw; (try dsimp only at hSw); go_simp; (try with_reducible rfl))
            try simp only [Act.put, List.setIfInBounds_toArray, List.set_cons_zero, List.set_cons_succ]
            refine wpAnyH_take (i := 1) (v := ?_) rfl (by kernel_rfl) (by kernel_rfl) (by kernel_rfl) (fun _ _ _ h => h) (Or.inl ⟨by rfl, ?_⟩) (by assumption) ?_
            rotate_left 1
            · (intro w hSw; (try dsimp only at hSw); go_simp; (try with_reducible rfl))
            try simp only [Act.put, List.setIfInBounds_toArray, List.set_cons_zero, List.set_cons_succ]
            refine wpAnyH_take (i := 2) (v := ?_) rfl (by kernel_rfl) (by kernel_rfl) (by kernel_rfl) (fun _ _ _ h => h) (Or.inl ⟨by rfl, ?_⟩) (by assumption) ?_
            rotate_left 1
            · (intro w hSw; (try dsimp only at hSw); go_simp; (try with_reducible rfl))
            try simp only [Act.put, List.setIfInBounds_toArray, List.set_cons_zero, List.set_cons_succ]
            refine wpAnyH_take (i := 3) (v := ?_) rfl (by kernel_rfl) (by kernel_rfl) (by kernel_rfl) (fun _ _ _ h => h) (Or.inl ⟨by rfl, ?_⟩) (by assumption) ?_
            rotate_left 1
            · (intro w hSw; (try dsimp only at hSw); go_simp; (try with_reducible rfl))
            try simp only [Act.put, List.setIfInBounds_toArray, List.set_cons_zero, List.set_cons_succ]
            refine wpAnyH_take (i := 4) (v := ?_) rfl (by kernel_rfl) (by kernel_rfl) (by kernel_rfl) (fun _ _ _ h => h) (Or.inl ⟨by rfl, ?_⟩) (by assumption) ?_
            rotate_left 1
            · (intro w hSw; (try dsimp only at hSw); go_simp; (try with_reducible rfl))
            try simp only [Act.put, List.setIfInBounds_toArray, List.set_cons_zero, List.set_cons_succ]
            refine wpAnyH_take (i := 5) (v := ?_) rfl (by kernel_rfl) (by kernel_rfl) (by kernel_rfl) (fun _ _ _ h => h) (Or.inl ⟨by rfl, ?_⟩) (by assumption) ?_
            rotate_left 1
            · (intro w hSw; (try dsimp only at hSw); go_simp; (try with_reducible rfl))
            try simp only [Act.put, List.setIfInBounds_toArray, List.set_cons_zero, List.set_cons_succ]
            refine wpAnyH_take (i := 6) (v := ?_) rfl (by kernel_rfl) (by kernel_rfl) (by kernel_rfl) (fun _ _ _ h => h) (Or.inl ⟨by rfl, ?_⟩) (by assumption) ?_
            rotate_left 1
            · (intro w hSw; (try dsimp only at hSw); go_simp; (try with_reducible rfl))
            try simp only [Act.put, List.setIfInBounds_toArray, List.set_cons_zero, List.set_cons_succ]
            refine wpAnyH_take (i := 10) (v := ?_) rfl (by kernel_rfl) (by kernel_rfl) (by kernel_rfl) (fun _ _ _ h => h) (Or.inl ⟨by rfl, ?_⟩) (by assumption) ?_
            rotate_left 1
            · (intro w hSw; (try dsimp only at hSw); go_simp; (try with_reducible rfl))
            try simp only [Act.put, List.setIfInBounds_toArray, List.set_cons_zero, List.set_cons_succ]
            refine wpAnyH_take (i := 11) (v := ?_) rfl (by kernel_rfl) (by kernel_rfl) (by kernel_rfl) (fun _ _ _ h => h) (Or.inl ⟨by rfl, ?_⟩) (by assumption) ?_
            rotate_left 1
            · (intro w hSw; (try dsimp only at hSw); go_simp; (try with_reducible rfl))
            try simp only [Act.put, List.setIfInBounds_toArray, List.set_cons_zero, List.set_cons_succ]
            refine wpAnyH_take (i := 12) (v := ?_) rfl (by kernel_rfl) (by kernel_rfl) (by kernel_rfl) (fun _ _ _ h => h) (Or.inl ⟨by rfl, ?_⟩) (by assumption) ?_
            rotate_left 1
            · (intro w hSw; (try dsimp only at hSw); go_simp; (try with_reducible rfl))
            try simp only [Act.put, List.setIfInBounds_toArray, List.set_cons_zero, List.set_cons_succ]
            refine wpAnyH_take (i := 13) (v := ?_) rfl (by kernel_rfl) (by kernel_rfl) (by kernel_rfl) (fun _ _ _ h => h) (Or.inl ⟨by rfl, ?_⟩) (by assumption) ?_
            rotate_left 1
            · (intro w hSw; (try dsimp only at hSw); go_simp; (try with_reducible rfl))
            try simp only [Act.put, List.setIfInBounds_toArray, List.set_cons_zero, List.set_cons_succ]
            refine wpAnyH_take (i := 14) (v := ?_) rfl (by kernel_rfl) (by kernel_rfl) (by kernel_rfl) (fun _ _ _ h => h) (Or.inl ⟨by rfl, ?_⟩) (by assumption) ?_
            rotate_left 1
            · (intro w hSw; (try dsimp only at hSw); go_simp; (try with_reducible rfl))
            try simp only [Act.put, List.setIfInBounds_toArray, List.set_cons_zero, List.set_cons_succ]
            refine wpAnyH_take (i := 17) (v := ?_) rfl (by kernel_rfl) (by kernel_rfl) (by kernel_rfl) (fun _ _ _ h => h) (Or.inl ⟨by rfl, ?_⟩) (by assumption) ?_
            rotate_left 1
            · (intro w hSw; (try dsimp only at hSw); go_simp; (try with_reducible rfl))
            try simp only [Act.put, List.setIfInBounds_toArray, List.set_cons_zero, List.set_cons_succ]
            refine wpAnyH_take (i := 18) (v := ?_) rfl (by kernel_rfl) (by kernel_rfl) (by kernel_rfl) (fun _ _ _ h => h) (Or.inl ⟨by rfl, ?_⟩) (by assumption) ?_
            rotate_left 1
            · (intro w hSw; (try dsimp only at hSw); go_simp; (try with_reducible rfl))
            try simp only [Act.put, List.setIfInBounds_toArray, List.set_cons_zero, List.set_cons_succ]
            refine wpAnyH_take (i := 19) (v := ?_) rfl (by kernel_rfl) (by kernel_rfl) (by kernel_rfl) (fun _ _ _ h => h) (Or.inl ⟨by rfl, ?_⟩) (by assumption) ?_
            rotate_left 1
            · (intro w hSw; (try dsimp only at hSw); go_simp; (try with_reducible rfl))
            try simp only [Act.put, List.setIfInBounds_toArray, List.set_cons_zero, List.set_cons_succ]
            refine wpAnyH_take (i := 20) (v := ?_) rfl (by kernel_rfl) (by kernel_rfl) (by kernel_rfl) (fun _ _ _ h => h) (Or.inl ⟨by rfl, ?_⟩) (by assumption) ?_
            rotate_left 1
            · (intro w hSw; (try dsimp only at hSw); go_simp; (try with_reducible rfl))
            try simp only [Act.put, List.setIfInBounds_toArray, List.set_cons_zero, List.set_cons_succ]
            refine wpAnyH_take (i := 21) (v := ?_) rfl (by kernel_rfl) (by kernel_rfl) (by kernel_rfl) (fun _ _ _ h => h) (Or.inl ⟨by rfl, ?_⟩) (by assumption) ?_
            rotate_left 1
            · (intro w hSw; (try dsimp only at hSw); go_simp; (try with_reducible rfl))
            try simp only [Act.put, List.setIfInBounds_toArray, List.set_cons_zero, List.set_cons_succ]
            refine wpAnyH_ready (rs := [7]) (by kernel_rfl) (by simp) ?_
            refine AllReadyH.cons rfl ?_ AllReadyH.nil
            intro K' hK'
            go_simp
            refine hK'.out _ _ (by first | exact ⟨d0, d1, d2⟩ | exact (HSA _).out | exact (HSB _ _).out | exact ⟨(HB8.out.cell (p := ⟨b1, o1 + k * 3, none⟩) lbw).trans d0, (HB8.out.cell (p := ⟨b1, o1 + k * 3 + 1, none⟩) lbw).trans d1, (HB8.out.cell (p := ⟨b1, o1 + k * 3 + 2, none⟩) lbw).trans d2⟩) ?_
            clear hK' K'
            intro hSw1
            try simp only [Act.put, List.setIfInBounds_toArray, List.set_cons_zero, List.set_cons_succ]
            refine wpAnyH_ready (rs := [8]) (by kernel_rfl) (by simp) ?_
            refine AllReadyH.cons rfl ?_ AllReadyH.nil
            intro K' hK'
            go_simp
            refine hK'.out _ _ (by first | exact ⟨d0, d1, d2⟩ | exact (HSA _).out | exact (HSB _ _).out | exact ⟨(HB8.out.cell (p := ⟨b1, o1 + k * 3, none⟩) lbw).trans d0, (HB8.out.cell (p := ⟨b1, o1 + k * 3 + 1, none⟩) lbw).trans d1, (HB8.out.cell (p := ⟨b1, o1 + k * 3 + 2, none⟩) lbw).trans d2⟩) ?_
            clear hK' K'
            intro hSw2
            try simp only [Act.put, List.setIfInBounds_toArray, List.set_cons_zero, List.set_cons_succ]
            refine wpAnyH_take (i := 9) (v := ?_) rfl (by kernel_rfl) (by kernel_rfl) (by kernel_rfl) (fun _ _ _ h => h) (Or.inl ⟨by rfl, ?_⟩) (by assumption) ?_
            rotate_left 1
            · (intro w hSw; (try dsimp only at hSw); go_simp; (try with_reducible rfl))
            try simp only [Act.put, List.setIfInBounds_toArray, List.set_cons_zero, List.set_cons_succ]
            refine wpAnyH_take (i := 15) (v := ?_) rfl (by kernel_rfl) (by kernel_rfl) (by kernel_rfl) (fun _ _ _ h => h) (Or.inl ⟨by rfl, ?_⟩) (by assumption) ?_
            rotate_left 1
            · (intro w hSw; (try dsimp only at hSw); go_simp; (try with_reducible rfl))
            try simp only [Act.put, List.setIfInBounds_toArray, List.set_cons_zero, List.set_cons_succ]
            refine wpAnyH_take (i := 16) (v := ?_) rfl (by kernel_rfl) (by kernel_rfl) (by kernel_rfl) (fun _ _ _ h => h) (Or.inl ⟨by rfl, ?_⟩) (by assumption) ?_
            rotate_left 1
            · (intro w hSw; (try dsimp only at hSw); go_simp; (try with_reducible rfl))
            try simp only [Act.put, List.setIfInBounds_toArray, List.set_cons_zero, List.set_cons_succ]
            refine wpAnyH_take (i := 22) (v := ?_) rfl (by kernel_rfl) (by kernel_rfl) (by kernel_rfl) (fun _ _ _ h => h) (Or.inl ⟨by rfl, ?_⟩) (by assumption) ?_
            rotate_left 1
            · (intro w hSw; (try dsimp only at hSw); go_simp; (try with_reducible rfl))
            try simp only [Act.put, List.setIfInBounds_toArray, List.set_cons_zero, List.set_cons_succ]
            refine wpAnyH_ready (rs := [23]) (by kernel_rfl) (by simp) ?_
            refine AllReadyH.cons rfl ?_ AllReadyH.nil
            intro K' hK'
            go_simp
            refine hK'.out _ _ (by first | exact ⟨d0, d1, d2⟩ | exact (HSA _).out | exact (HSB _ _).out | exact ⟨(HB8.out.cell (p := ⟨b1, o1 + k * 3, none⟩) lbw).trans d0, (HB8.out.cell (p := ⟨b1, o1 + k * 3 + 1, none⟩) lbw).trans d1, (HB8.out.cell (p := ⟨b1, o1 + k * 3 + 2, none⟩) lbw).trans d2⟩) ?_
            clear hK' K'
            intro hSw3
            try simp only [Act.put, List.setIfInBounds_toArray, List.set_cons_zero, List.set_cons_succ]
            refine wpAnyH_ready (rs := [24]) (by kernel_rfl) (by simp) ?_
            refine AllReadyH.cons rfl ?_ AllReadyH.nil
            intro K' hK'
            refine step_append_text rfl (.tmp 56) (.tmp 79) rfl w.heap.size (.slice oa (doneW h t k).length ocap) (doneW h t k).length (doneW h t k) rfl rfl HO2.out (by exact Below.drew (Below.al (Below.al (Below.rf _) _) _)) (112 :: 117 :: 116 :: 32 :: byteI T :: (KB ++ 61 :: VB)) (strOne_of (by exact heap_second _ _ _)) (by have := HLN.out; omega) HBS.out ?_; intro v8 w8 ho8 hb8; have HO8 := Lib.hid ho8; have HB8 := Lib.hid hb8; obtain ⟨oa8, ocap8, rfl⟩ := ho8.own.shape
            refine hK'.out _ _ (by first | exact ⟨d0, d1, d2⟩ | exact (HSA _).out | exact (HSB _ _).out | exact ⟨(HB8.out.cell (p := ⟨b1, o1 + k * 3, none⟩) lbw).trans d0, (HB8.out.cell (p := ⟨b1, o1 + k * 3 + 1, none⟩) lbw).trans d1, (HB8.out.cell (p := ⟨b1, o1 + k * 3 + 2, none⟩) lbw).trans d2⟩) ?_
            clear hK' K'
            intro hSw4
            try simp only [Act.put, List.setIfInBounds_toArray, List.set_cons_zero, List.set_cons_succ]
            refine wpAnyH_done (by kernel_rfl) ?_ _
            show Oper.wp _ _ _ _ _ _
            go_wp2
            go_roundw
            case rel => exact ⟨k + 1, by omega, by go_num, by rw [HN2.out, show putText (T, KB) VB = 112 :: 117 :: 116 :: 32 :: byteI T :: (KB ++ 61 :: VB) by simp [putText]]; have h8 := HO8.out; rw [List.length_append] at h8; exact h8, (HB.out.tn HB2.out).trans HB8.out⟩
            case measure => simp [intOf]; omega
        · obtain rfl : k = t.length := by omega
          have hge : ¬ (t.length : Int) < t.length := by omega
          have HE : Hid (SliceAt wr (.slice oa (doneW h t t.length).length ocap) 1 (doneT h t).length (strsV (doneT h t))) := Lib.hid (by rw [← done_end]; exact HO.out.own.sliceAt)
          clear HO
          generalize (doneW h t t.length).length = ol at *
          go_wp2
          go_ret
          exact ⟨_, rfl, HE.out, HB.out⟩
end Go.Proofs.YtkkfmkhbdoeglabGreatDoor
namespace Go.Proofs.YtkkfmkhbdoeglabGreatDoor
open Go.RowKit Go.Shelf
theorem DpGo.of_below {w w1 w' : World} {base h : Nat} {x : HV} {d : DpS} (hb : Below w.heap.size w w1) (hd : DpGo w1 base h x d w') : DpGo w base h x d w' := by
  obtain ⟨⟨lv, h1, h2⟩, h3⟩ := hd
  exact ⟨⟨lv, h1, fun i e => (h2 i e).imp id (fun e => Nat.le_trans hb.size e)⟩, (Ext.of_new hb).trans h3⟩
theorem overI_some {S : List E} {room : Nat → Int} {t : Nat} (h : overS S room = some t) : overI S room = (t : Int) ∧ t < 3 := by
  unfold overI
  rw [h]
  refine ⟨rfl, ?_⟩
  unfold overS at h
  split at h
  · cases h; omega
  · split at h
    · cases h; omega
    · split at h
      · cases h; omega
      · cases h
theorem overI_no {S : List E} {room : Nat → Int} (h : overS S room = none) : overI S room = -1 := by
  unfold overI
  rw [h]
set_option maxRecDepth 100000 in
set_option maxHeartbeats 1000000 in
theorem reconcile_full (q r h t : Nat) (x : HV) (T : List E) (w : World) (he : EntAt w q 0 r T) (hh : HostIs w h x) (hl : T.length ≤ 1000000000) (ho : overS T x.room = some t) :
    Calls Tryz.prog 63 #[dpV h, .pointer (some ⟨q, 0, none⟩)] w fun e w' => ∃ b, e = .returned (.iface 171 (.pointer (some ⟨b, 0, none⟩))) ∧ w.heap.size ≤ b ∧ w'.heap[b]? = some (.cells #[.int .i64 10, .int .i64 (t : Nat), .nilIface] 186 (0, 0)) ∧ Below w.heap.size w w' := by
  have HOV := Lib.hid (over_any q 0 r h x T w he hh hl)
  obtain ⟨h1, h2⟩ := overI_some ho
  rw [h1] at HOV
  have hlt := he.lt
  clear he hh h1 ho
  unfold dpV at *
  go_enter Tryz.func63, Tryz.ntmps63
  go_wp2_with fail
  refine HOV.out.mono ?_
  rintro e w1 ⟨rfl, hb1⟩
  have ht0 : (0 : Int) ≤ (t : Int) := by omega
  go_wp2_with fail
  refine (fault_any 10 (t : Int) w1).mono ?_
  rintro e w2 ⟨rfl, rfl⟩
  go_wp2
  go_ret
  exact ⟨_, rfl, hb1.size, heap_new w1 _, hb1.alloc hb1.size _⟩
set_option maxRecDepth 100000 in
set_option maxHeartbeats 1000000 in
theorem reconcile_good (base q r h : Nat) (x : HV) (d : DpS) (T : List E) (w : World) (he : EntAt w q 0 r T) (hd : DpAt w base h x d) (hT : T.length ≤ 100000000) (hS : d.S.length ≤ 100000000) (hL : d.log.length ≤ 7500000000000) (hSk : ∀ y ∈ d.S, y.1.2.length ≤ maxB) (hTk : ∀ y ∈ T, y.1.2.length ≤ maxB ∧ y.2.length ≤ maxB) (hb : base ≤ w.heap.size) (hq1 : q ≠ h) (hq2 : x.log.ownBlock ≠ some q) (hr1 : r ≠ x.r) (ho : overS T x.room = none) :
    Calls Tryz.prog 63 #[dpV h, .pointer (some ⟨q, 0, none⟩)] w fun e w' => e = .returned .nilIface ∧ DpGo w base h x (d.run (opsB d.S T)) w' := by
  have HOV := Lib.hid (over_any q 0 r h x T w he hd.row (by omega))
  rw [overI_no ho] at HOV
  have HBR := Lib.hid (fun (W : World) (hW : Below w.heap.size w W) => bring_any base q 0 r h x d T W (he.below hW) (hd.below hW) hT hS hL hSk hTk (Nat.le_trans hb hW.size) hq1 hq2 hr1)
  have hlt := he.lt
  clear he hd hSk hTk ho
  unfold dpV at *
  go_enter Tryz.func63, Tryz.ntmps63
  go_wp2_with fail
  refine HOV.out.mono ?_
  rintro e w1 ⟨rfl, hb1⟩
  have HB1 := Lib.hid hb1
  go_wp2_with fail
  refine (HBR.out w1 HB1.out).mono ?_
  rintro e w2 ⟨rfl, hgo⟩
  have HGO := Lib.hid hgo
  clear hgo hb1
  go_wp2
  go_ret
  exact ⟨rfl, DpGo.of_below HB1.out HGO.out⟩
end Go.Proofs.YtkkfmkhbdoeglabGreatDoor
