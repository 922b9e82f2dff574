/- What package overlay's Decode answers, in plain data. No condition. -/
import Derived.Test.YtkkfmkhbdoeglaaGreatDoorCurOpAny
import Derived.Test.YtkkfmkhbdoeglaaGreatDoorCodecA
namespace Go.Proofs.YtkkfmkhbdoeglaaGreatDoor
open Go.RowKit

/-- Decode's loop, in plain data -/
def decLoop : Nat → Cu → List K → List OpB → Cu × List OpB
  | 0, c, _, os => (c, os)
  | n + 1, c, ks, os =>
    match c.f with
    | some _ => (c, os)
    | none => decLoop n (c.op ks).1 (ks ++ [((c.op ks).2.table, (c.op ks).2.key)]) (os ++ [(c.op ks).2])
/-- the delta that bytes are, or a fault and where -/
def decB (l : List UInt8) : (Nat × List OpB) ⊕ (Nat × Nat) :=
  let a := Cu.take ⟨l, 0, 0, none⟩ 8
  let b := (a.1.must (isVersionB (numB a.2)) 4).take 1
  let n := (b.2.headD 0).toNat
  let L := decLoop n (b.1.must (decide (1 ≤ n) && decide (n ≤ 8)) 5) [] []
  match L.1.ended.f with
  | some f => .inr f
  | none => .inl (numB a.2, L.2)
end Go.Proofs.YtkkfmkhbdoeglaaGreatDoor

/- What Decode, Encode and the references' Decode answer, in plain data, and that they answer alike; a delta comes back from its bytes, and bytes from their delta. No condition. -/
namespace Go.Proofs.YtkkfmkhbdoeglaaGreatDoor
open Go.RowKit

def valOk (o : OpB) : Bool := if o.kind = 2 then o.val == [] else isValueB o.table o.val
/-- what is wrong with a change, by the keys ahead of it (0: nothing) -/
def opWrong (o : OpB) (ahead : List K) : Nat :=
  if o.kind < 1 ∨ 2 < o.kind ∨ o.table < 0 ∨ 2 < o.table then 6
  else if isKeyB o.table o.key = false then 7
  else if ahead.contains (o.table, o.key) = true then 8
  else if valOk o = false then 9
  else 0
def wrongFrom : Nat → List K → List OpB → Option (Nat × Nat)
  | _, _, [] => none
  | i, ks, o :: os => if opWrong o ks = 0 then wrongFrom (i + 1) (ks ++ [(o.table, o.key)]) os else some (opWrong o ks, i)
/-- what is wrong with a delta -/
def wrongB (v : Nat) (os : List OpB) : Option (Nat × Nat) :=
  if isVersionB v = false then some (4, 0)
  else if os.length < 1 ∨ 8 < os.length then some (5, 0)
  else wrongFrom 0 [] os
def opBytes (o : OpB) : List UInt8 := UInt8.ofNat o.kind.toNat :: UInt8.ofNat o.table.toNat :: (o.key ++ o.val)
/-- a delta's bytes -/
def encB (v : Nat) (os : List OpB) : List UInt8 := be8 v ++ UInt8.ofNat os.length :: os.flatMap opBytes

/-- the change at a place -/
def changeB (s : List UInt8) (at' : Nat) (ks : List K) : (OpB × Nat) ⊕ (Nat × Nat) :=
  match s.drop at' with
  | x :: y :: r =>
    if x.toNat < 1 ∨ 2 < x.toNat ∨ 2 < y.toNat then .inr (6, at')
    else if r.length < keyLen y.toNat then .inr (1, at' + 2)
    else if isKeyB y.toNat (r.take (keyLen y.toNat)) = false then .inr (7, at' + 2)
    else if ks.contains ((y.toNat : Int), r.take (keyLen y.toNat)) = true then .inr (8, at' + 2)
    else if x.toNat = 2 then .inl (⟨2, y.toNat, r.take (keyLen y.toNat), []⟩, at' + 2 + keyLen y.toNat)
    else if r.length < keyLen y.toNat + valLen y.toNat then .inr (1, at' + 2 + keyLen y.toNat)
    else if isValueB y.toNat ((r.drop (keyLen y.toNat)).take (valLen y.toNat)) = false then .inr (9, at' + 2 + keyLen y.toNat)
    else .inl (⟨1, y.toNat, r.take (keyLen y.toNat), (r.drop (keyLen y.toNat)).take (valLen y.toNat)⟩, at' + 2 + keyLen y.toNat + valLen y.toNat)
  | _ => .inr (1, at')
/-- the reference's loop: so many changes, from a place on -/
def changesB (s : List UInt8) : Nat → Nat → List K → List OpB → (Nat × List OpB) ⊕ (Nat × Nat)
  | 0, at', _, os => .inl (at', os)
  | n + 1, at', ks, os =>
    match changeB s at' ks with
    | .inr f => .inr f
    | .inl (o, to) => changesB s n to (ks ++ [(o.table, o.key)]) (os ++ [o])
def refDecB (s : List UInt8) : (Nat × List OpB) ⊕ (Nat × Nat) :=
  if s.length < 8 then .inr (1, 0)
  else if isVersionB (numB (s.take 8)) = false then .inr (4, 0)
  else if s.length < 9 then .inr (1, 8)
  else if ((s.drop 8).headD 0).toNat < 1 ∨ 8 < ((s.drop 8).headD 0).toNat then .inr (5, 8)
  else match changesB s ((s.drop 8).headD 0).toNat 9 [] [] with
    | .inr f => .inr f
    | .inl (at', os) => if at' < s.length then .inr (2, at') else .inl (numB (s.take 8), os)

theorem Cu.take_none (l : List UInt8) (a to n : Nat) : (⟨l, a, to, none⟩ : Cu).take n = if l.length < to + n then (⟨l, a, to, some (1, to)⟩, List.replicate n 0) else (⟨l, to, to + n, none⟩, (l.drop to).take n) := rfl
theorem Cu.take_some (l : List UInt8) (a to n : Nat) (f : Nat × Nat) : (⟨l, a, to, some f⟩ : Cu).take n = (⟨l, a, to, some f⟩, List.replicate n 0) := rfl
theorem Cu.must_none (l : List UInt8) (a to k : Nat) (ok : Bool) : (⟨l, a, to, none⟩ : Cu).must ok k = if ok = true then ⟨l, a, to, none⟩ else ⟨l, a, to, some (k, a)⟩ := rfl
theorem Cu.must_some (l : List UInt8) (a to k : Nat) (ok : Bool) (f : Nat × Nat) : (⟨l, a, to, some f⟩ : Cu).must ok k = ⟨l, a, to, some f⟩ := rfl

theorem drop2 {l : List UInt8} {to : Nat} {x y : UInt8} {r : List UInt8} (h : l.drop to = x :: y :: r) : l.drop (to + 2) = r ∧ l.length = to + 2 + r.length := by
  have h1 : (l.drop to).drop 2 = r := by rw [h]; rfl
  rw [List.drop_drop] at h1
  have h2 := congrArg List.length h
  rw [List.length_drop, List.length_cons, List.length_cons] at h2
  exact ⟨h1, by omega⟩
/-- cursor.op is the reference's change -/
theorem Cu.op_change (l : List UInt8) (a to : Nat) (ks : List K) :
    match changeB l to ks with
    | .inr f => ((⟨l, a, to, none⟩ : Cu).op ks).1.f = some f
    | .inl (o, to') => ∃ a', (⟨l, a, to, none⟩ : Cu).op ks = (⟨l, a', to', none⟩, o) ∧ to' ≤ l.length := by
  unfold changeB
  match h : l.drop to with
  | [] =>
    have : l.length < to + 2 := by have := congrArg List.length h; simp at this; omega
    simp [Cu.op, Cu.take_none, this, List.replicate, Cu.must_some]
  | [x] =>
    have : l.length < to + 2 := by have := congrArg List.length h; simp at this; omega
    simp [Cu.op, Cu.take_none, this, List.replicate, Cu.must_some]
  | x :: y :: r =>
    obtain ⟨hd, hl⟩ := drop2 h
    have hn : ¬ l.length < to + 2 := by omega
    have hbad : ((x.toNat == 1 || x.toNat == 2) = true ∧ y.toNat < 3) ↔ ¬ (x.toNat < 1 ∨ 2 < x.toNat ∨ 2 < y.toNat) := by
      simp only [Bool.or_eq_true, beq_iff_eq]; omega
    simp only [Cu.op, Cu.take_none, hn, if_false, h, List.take_succ_cons, List.take_zero]
    by_cases hb : x.toNat < 1 ∨ 2 < x.toNat ∨ 2 < y.toNat
    · rw [if_pos hb]
      have := mt hbad.1 (fun e => e hb)
      by_cases h1 : (x.toNat == 1 || x.toNat == 2) = true
      · have h2 : ¬ y.toNat < 3 := fun e => this ⟨h1, e⟩
        simp [Cu.must_none, h1, h2]
      · simp [Cu.must_none, h1, Cu.must_some]
    · rw [if_neg hb]
      obtain ⟨h1, h2⟩ := hbad.2 hb
      simp only [Cu.must_none, h1, h2, decide_true, if_true, Cu.opTail, Cu.take_none, hl]
      by_cases hs : r.length < keyLen y.toNat
      · have hs' : to + 2 + r.length < to + 2 + keyLen y.toNat := by omega
        simp only [hs, hs', if_true, Cu.must_some, Cu.take_some]
        split <;> rfl
      · have hs' : ¬ to + 2 + r.length < to + 2 + keyLen y.toNat := by omega
        simp only [hs, hs', if_false, hd, Cu.must_none]
        cases hk : isKeyB (y.toNat : Int) (r.take (keyLen y.toNat)) with
        | false =>
          simp only [if_true, Bool.false_eq_true, if_false, Cu.must_some, Cu.take_some]
          split <;> rfl
        | true =>
          simp only [Bool.true_eq_false, if_false, if_true, Cu.must_none]
          cases hc : ks.contains ((y.toNat : Int), r.take (keyLen y.toNat)) with
          | true =>
            simp only [if_true, Bool.not_true, Bool.false_eq_true, if_false, Cu.must_some, Cu.take_some]
            split <;> rfl
          | false =>
            simp only [Bool.not_false, Bool.false_eq_true, if_false, if_true]
            by_cases h2x : x.toNat = 2
            · have : ¬ (x.toNat : Int) = 1 := by omega
              rw [if_pos h2x, if_neg this]
              exact ⟨_, by rw [h2x]; rfl, by omega⟩
            · have h1x : (x.toNat : Int) = 1 := by omega
              rw [if_neg h2x, if_pos h1x]
              simp only [Cu.take_none, hl]
              by_cases hv : r.length < keyLen y.toNat + valLen y.toNat
              · have hv' : to + 2 + r.length < to + 2 + keyLen y.toNat + valLen y.toNat := by omega
                simp only [hv, hv', if_true, Cu.must_some]
              · have hv' : ¬ to + 2 + r.length < to + 2 + keyLen y.toNat + valLen y.toNat := by omega
                have hd2 : l.drop (to + 2 + keyLen y.toNat) = r.drop (keyLen y.toNat) := by rw [← hd, List.drop_drop]
                simp only [hv, hv', if_false, hd2, Cu.must_none]
                cases hvv : isValueB (y.toNat : Int) ((r.drop (keyLen y.toNat)).take (valLen y.toNat)) with
                | false => simp only [if_true, Bool.false_eq_true, if_false]
                | true =>
                  simp only [Bool.true_eq_false, if_false, if_true]
                  exact ⟨_, by rw [h1x], by omega⟩
theorem decLoop_some (n : Nat) (c : Cu) (ks : List K) (os : List OpB) (f : Nat × Nat) (h : c.f = some f) : (decLoop n c ks os).1 = c := by
  cases n with
  | zero => rfl
  | succ n => unfold decLoop; rw [h]
theorem decLoop_changes (l : List UInt8) : ∀ (n a to : Nat) (ks : List K) (os : List OpB), to ≤ l.length →
    match changesB l n to ks os with
    | .inr f => (decLoop n ⟨l, a, to, none⟩ ks os).1.f = some f
    | .inl (to', os') => ∃ a', decLoop n ⟨l, a, to, none⟩ ks os = (⟨l, a', to', none⟩, os') ∧ to' ≤ l.length
  | 0, a, to, ks, os, h => ⟨a, rfl, h⟩
  | n + 1, a, to, ks, os, h => by
    have hc := Cu.op_change l a to ks
    unfold changesB
    cases hch : changeB l to ks with
    | inr f =>
      rw [hch] at hc
      simp only at hc ⊢
      unfold decLoop
      simp only
      rw [decLoop_some n _ _ _ f hc]
      exact hc
    | inl x =>
      obtain ⟨o, to'⟩ := x
      rw [hch] at hc
      obtain ⟨a', he, hle⟩ := hc
      simp only
      have ih := decLoop_changes l n a' to' (ks ++ [(o.table, o.key)]) (os ++ [o]) hle
      unfold decLoop
      simp only [he]
      exact ih
/-- Decode is the reference's -/
theorem decB_ref (l : List UInt8) : decB l = refDecB l := by
  unfold decB refDecB
  by_cases h8 : l.length < 8
  · have h8' : l.length < 0 + 8 := by omega
    simp [Cu.take_none, h8, Cu.must_some, Cu.take_some, List.replicate, decLoop, Cu.ended]
  · have h8' : ¬ l.length < 0 + 8 := by omega
    simp only [Cu.take_none, h8, if_false, List.drop_zero, Nat.zero_add, Cu.must_none]
    cases hv : isVersionB (numB (l.take 8)) with
    | false => simp [Cu.take_some, Cu.must_some, List.replicate, decLoop, Cu.ended]
    | true =>
      simp only [if_true, Bool.true_eq_false, if_false, Cu.take_none]
      by_cases h9 : l.length < 9
      · have h9' : l.length < 8 + 1 := h9
        simp [h9, Cu.must_some, List.replicate, decLoop, Cu.ended]
      · have h9' : ¬ l.length < 8 + 1 := h9
        have hhd : ((l.drop 8).take 1).headD 0 = (l.drop 8).headD 0 := by
          cases l.drop 8 <;> rfl
        simp only [h9, if_false, hhd, Cu.must_none]
        generalize ((l.drop 8).headD 0).toNat = n
        by_cases hn : n < 1 ∨ 8 < n
        · have : ¬ ((decide (1 ≤ n) && decide (n ≤ 8)) = true) := by simp; omega
          rw [if_neg this, if_pos hn]
          cases n with
          | zero => rfl
          | succ n => rfl
        · have : (decide (1 ≤ n) && decide (n ≤ 8)) = true := by simp; omega
          rw [if_pos this, if_neg hn]
          have hd := decLoop_changes l n 8 9 [] [] (by omega)
          cases hc : changesB l n 9 [] [] with
          | inr f =>
            rw [hc] at hd
            simp only at hd ⊢
            simp [Cu.ended, hd]
          | inl x =>
            obtain ⟨to, os⟩ := x
            rw [hc] at hd
            obtain ⟨a', he, hle⟩ := hd
            simp only [he, Cu.ended]
            by_cases ht : to < l.length <;> simp [ht]
theorem isKeyB_length {t : Int} {k : List UInt8} (h : isKeyB t k = true) : k.length = keyLen t :=
  Decidable.byContradiction fun hn => by rw [isKeyB_len hn] at h; cases h
theorem isValueB_length {t : Int} {k : List UInt8} (h0 : 0 ≤ t) (h2 : t < 3) (h : isValueB t k = true) : k.length = valLen t :=
  Decidable.byContradiction fun hn => by rw [isValueB_len h0 h2 hn] at h; cases h
theorem opWrong_zero {o : OpB} {ks : List K} (h : opWrong o ks = 0) :
    (o.kind = 1 ∨ o.kind = 2) ∧ 0 ≤ o.table ∧ o.table < 3 ∧ isKeyB o.table o.key = true ∧ ks.contains (o.table, o.key) = false ∧ valOk o = true := by
  unfold opWrong at h
  split at h
  · cases h
  · split at h
    · cases h
    · split at h
      · cases h
      · split at h
        · cases h
        · rename_i h1 h2 h3 h4
          exact ⟨by omega, by omega, by omega, (by simpa using h2), Bool.not_eq_true _ ▸ h3, (by simpa using h4)⟩
theorem opWrong_of {o : OpB} {ks : List K} (h1 : o.kind = 1 ∨ o.kind = 2) (h2 : 0 ≤ o.table) (h3 : o.table < 3) (h4 : isKeyB o.table o.key = true) (h5 : ks.contains (o.table, o.key) = false) (h6 : valOk o = true) : opWrong o ks = 0 := by
  unfold opWrong
  rw [if_neg (by omega), h4, if_neg (by decide), h5, if_neg (by decide), h6, if_neg (by decide)]
theorem changeB_inl {s : List UInt8} {at' to : Nat} {ks : List K} {o : OpB} (h : changeB s at' ks = .inl (o, to)) :
    opWrong o ks = 0 ∧ s.drop at' = opBytes o ++ s.drop to ∧ to = at' + (opBytes o).length := by
  unfold changeB at h
  split at h
  · rename_i x y r hd
    obtain ⟨hd2, hl⟩ := drop2 hd
    split at h
    · cases h
    · rename_i hb
      split at h
      · cases h
      · rename_i hkl
        split at h
        · cases h
        · rename_i hk
          split at h
          · cases h
          · rename_i hc
            have hky : isKeyB (y.toNat : Int) (r.take (keyLen y.toNat)) = true := by simpa using hk
            have hct : ks.contains ((y.toNat : Int), r.take (keyLen y.toNat)) = false := by simpa using hc
            have hlen : (r.take (keyLen y.toNat)).length = keyLen y.toNat := by rw [List.length_take]; omega
            split at h
            · rename_i h2
              cases h
              refine ⟨opWrong_of (.inr rfl) (by simp only; omega) (by simp only; omega) hky hct rfl, ?_, by simp only [opBytes, List.length_cons, List.length_append, hlen, List.length_nil]; omega⟩
              rw [hd, ← List.drop_drop, hd2]
              have hx : UInt8.ofNat (2 : Int).toNat = x := by rw [← UInt8.toNat_inj]; simp [h2]
              simp only [opBytes, hx, UInt8.ofNat_toNat, Int.toNat_natCast, List.append_nil, List.cons_append, List.take_append_drop]
            · rename_i h2
              split at h
              · cases h
              · rename_i hvl
                split at h
                · cases h
                · rename_i hv
                  cases h
                  have hvv : isValueB (y.toNat : Int) ((r.drop (keyLen y.toNat)).take (valLen y.toNat)) = true := by simpa using hv
                  have h1 : x.toNat = 1 := by omega
                  refine ⟨opWrong_of (.inl rfl) (by simp only; omega) (by simp only; omega) hky hct hvv, ?_, by simp only [opBytes, List.length_cons, List.length_append, hlen, List.length_take, List.length_drop]; omega⟩
                  rw [hd, ← List.drop_drop, ← List.drop_drop, hd2]
                  have hx : UInt8.ofNat (1 : Int).toNat = x := by rw [← UInt8.toNat_inj]; simp [h1]
                  simp only [opBytes, hx, UInt8.ofNat_toNat, Int.toNat_natCast, List.cons_append, List.append_assoc, List.take_append_drop]
  · cases h
theorem opBytes_length {o : OpB} : (opBytes o).length = 2 + o.key.length + o.val.length := by
  simp [opBytes]; omega
theorem changeB_of {s t : List UInt8} {at' : Nat} {ks : List K} {o : OpB} (h : opWrong o ks = 0) (hs : s.drop at' = opBytes o ++ t) :
    changeB s at' ks = .inl (o, at' + (opBytes o).length) := by
  obtain ⟨h1, h2, h3, h4, h5, h6⟩ := opWrong_zero h
  obtain ⟨kd, T, k, v⟩ := o
  simp only at h1 h2 h3 h4 h5 h6
  have hkl := isKeyB_length h4
  obtain ⟨y, hy⟩ : ∃ y : UInt8, (y.toNat : Int) = T := ⟨UInt8.ofNat T.toNat, by simp; omega⟩
  have hyT : UInt8.ofNat T.toNat = y := by rw [← hy]; simp
  rw [opBytes_length]
  unfold changeB
  simp only [opBytes, List.cons_append, List.append_assoc] at hs
  rw [hs, hyT]
  simp only
  have htk : (k ++ (v ++ t)).take (keyLen T) = k := by rw [← hkl, List.take_left]
  have hdk : (k ++ (v ++ t)).drop (keyLen T) = v ++ t := by rw [← hkl, List.drop_left]
  rw [hy, htk, hdk]
  have hx : (UInt8.ofNat kd.toNat).toNat = kd.toNat := by simp; omega
  rw [hx, if_neg (by omega), if_neg (by simp [hkl]), h4, if_neg (by decide), h5, if_neg (by decide)]
  rcases h1 with rfl | rfl
  · rw [if_neg (by decide)]
    have h6 : isValueB T v = true := h6
    have hvl := isValueB_length h2 h3 h6
    have htv : (v ++ t).take (valLen T) = v := by rw [← hvl, List.take_left]
    rw [htv, if_neg (by simp [hkl, hvl]), h6, if_neg (by decide)]
    rw [hkl, hvl]
    congr 2
    omega
  · have h6 : v = [] := by simpa [valOk] using h6
    subst h6
    rw [if_pos (by rfl)]
    simp [hkl]
    omega

theorem changesB_inl {s : List UInt8} : ∀ {n at' : Nat} {ks : List K} {os : List OpB} {to : Nat} {os' : List OpB}, changesB s n at' ks os = .inl (to, os') →
    ∃ us, os' = os ++ us ∧ us.length = n ∧ (∀ i, wrongFrom i ks us = none) ∧ s.drop at' = us.flatMap opBytes ++ s.drop to ∧ to = at' + (us.flatMap opBytes).length
  | 0, at', ks, os, to, os', h => by
    cases h
    exact ⟨[], by simp, rfl, fun _ => rfl, rfl, rfl⟩
  | n + 1, at', ks, os, to, os', h => by
    unfold changesB at h
    cases hc : changeB s at' ks with
    | inr f => rw [hc] at h; cases h
    | inl x =>
      obtain ⟨o, m⟩ := x
      rw [hc] at h
      simp only at h
      obtain ⟨h1, h2, h3⟩ := changeB_inl hc
      obtain ⟨us, e1, e2, e3, e4, e5⟩ := changesB_inl h
      refine ⟨o :: us, by rw [e1]; simp, by simp [e2], fun i => ?_, ?_, ?_⟩
      · unfold wrongFrom
        rw [if_pos h1]
        exact e3 (i + 1)
      · rw [h2, e4, List.flatMap_cons, List.append_assoc]
      · rw [e5, h3, List.flatMap_cons, List.length_append]; omega
theorem changesB_of {s : List UInt8} : ∀ {us : List OpB} {at' i : Nat} {ks : List K} {os : List OpB} {t : List UInt8}, wrongFrom i ks us = none → s.drop at' = us.flatMap opBytes ++ t →
    changesB s us.length at' ks os = .inl (at' + (us.flatMap opBytes).length, os ++ us)
  | [], at', i, ks, os, t, h, hs => by simp [changesB]
  | o :: us, at', i, ks, os, t, h, hs => by
    unfold wrongFrom at h
    split at h
    · rename_i h0
      rw [List.flatMap_cons, List.append_assoc] at hs
      have hc := changeB_of h0 hs
      have hd : s.drop (at' + (opBytes o).length) = us.flatMap opBytes ++ t := by rw [← List.drop_drop, hs, List.drop_left]
      have ih := changesB_of (os := os ++ [o]) h hd
      rw [List.length_cons]
      unfold changesB
      rw [hc]
      simp only [ih, List.flatMap_cons, List.length_append, List.append_assoc, List.cons_append, List.nil_append]
      congr 2
      omega
    · cases h

theorem length8 {k : List UInt8} (h : k.length = 8) : ∃ a b c d e f g i, k = [a, b, c, d, e, f, g, i] := by
  match k, h with
  | [a, b, c, d, e, f, g, i], _ => exact ⟨a, b, c, d, e, f, g, i, rfl⟩
theorem numB_be8 (v : Nat) (h : v < 18446744073709551616) : numB (be8 v) = v := by
  simp [numB, be8, List.range, List.range.loop]
  omega
theorem be8_numB (l : List UInt8) (h : l.length = 8) : be8 (numB l) = l := by
  obtain ⟨a, b, c, d, e, f, g, i, rfl⟩ := length8 h
  have ha := a.toNat_lt
  have hb := b.toNat_lt
  have hc := c.toNat_lt
  have hd := d.toNat_lt
  have he := e.toNat_lt
  have hf := f.toNat_lt
  have hg := g.toNat_lt
  have hi := i.toNat_lt
  simp only [numB, be8, List.range, List.range.loop, List.map_cons, List.map_nil, List.foldl_cons, List.foldl_nil, List.cons.injEq, and_true, ← UInt8.toNat_inj, UInt8.toNat_ofNat']
  refine ⟨?_, ?_, ?_, ?_, ?_, ?_, ?_, ?_⟩ <;> simp <;> omega
theorem isVersionB_lt {v : Nat} (h : isVersionB v = true) : v < 18446744073709551616 := by
  unfold isVersionB at h; simp at h; omega
/-- a delta that may be comes back from its bytes -/
theorem dec_enc (v : Nat) (os : List OpB) (h : wrongB v os = none) : refDecB (encB v os) = .inl (v, os) := by
  unfold wrongB at h
  split at h
  · cases h
  · rename_i hv
    split at h
    · cases h
    · rename_i hn
      have hv' : isVersionB v = true := by simpa using hv
      have hl : (encB v os).length = 9 + (os.flatMap opBytes).length := by unfold encB; rw [List.length_append, be8_length, List.length_cons]; omega
      have ht : (encB v os).take 8 = be8 v := by unfold encB; rw [← be8_length v, List.take_left]
      have hd : (encB v os).drop 8 = UInt8.ofNat os.length :: os.flatMap opBytes := by unfold encB; rw [← be8_length v, List.drop_left]
      have hd9 : (encB v os).drop 9 = os.flatMap opBytes := by rw [show 9 = 8 + 1 from rfl, ← List.drop_drop, hd]; rfl
      have hh : (UInt8.ofNat os.length).toNat = os.length := by simp; omega
      unfold refDecB
      rw [if_neg (by omega), ht, numB_be8 v (isVersionB_lt hv'), if_neg (by simp [hv']), if_neg (by omega), hd]
      simp only [List.headD_cons, hh]
      rw [if_neg (by omega), changesB_of (t := []) h (by rw [hd9, List.append_nil])]
      simp only [List.nil_append]
      rw [if_neg (by omega)]
/-- whatever bytes are read as a delta are just those that it is written as -/
theorem enc_dec (s : List UInt8) (v : Nat) (os : List OpB) (h : refDecB s = .inl (v, os)) : wrongB v os = none ∧ encB v os = s := by
  unfold refDecB at h
  split at h
  · cases h
  · split at h
    · cases h
    · split at h
      · cases h
      · split at h
        · cases h
        · rename_i h8 hv h9 hn
          split at h
          · cases h
          · rename_i at' os' hc
            split at h
            · cases h
            · rename_i hat
              cases h
              obtain ⟨us, e1, e2, e3, e4, e5⟩ := changesB_inl hc
              rw [List.nil_append] at e1
              rw [e1]
              have ht8 : (s.take 8).length = 8 := by rw [List.length_take]; omega
              have hend : s.drop at' = [] := List.drop_eq_nil_of_le (by omega)
              refine ⟨?_, ?_⟩
              · unfold wrongB
                rw [if_neg hv, if_neg (by omega)]
                exact e3 0
              · unfold encB
                rw [be8_numB _ ht8]
                obtain ⟨x, r, hx⟩ : ∃ x r, s.drop 8 = x :: r := by
                  cases hh : s.drop 8 with
                  | nil => have := congrArg List.length hh; simp at this; omega
                  | cons x r => exact ⟨x, r, rfl⟩
                have h9' : s.drop 9 = r := by rw [show 9 = 8 + 1 from rfl, ← List.drop_drop, hx]; rfl
                rw [h9', hend, List.append_nil] at e4
                rw [hx] at e2
                rw [← e4]
                have hxn : UInt8.ofNat us.length = x := by rw [e2]; simp
                rw [hxn, ← hx, List.take_append_drop]
theorem changeB_at {s : List UInt8} {at' : Nat} {ks : List K} {f : Nat × Nat} (h : changeB s at' ks = .inr f) (hle : at' ≤ s.length) : 1 ≤ f.1 ∧ f.1 ≤ 14 ∧ f.2 ≤ s.length := by
  unfold changeB at h
  split at h
  · rename_i x y r hd
    obtain ⟨hd2, hl⟩ := drop2 hd
    repeat' (split at h)
    all_goals first | (cases h; simp only; omega) | cases h
  · cases h; simp only; omega
theorem changesB_at {s : List UInt8} : ∀ {n at' : Nat} {ks : List K} {os : List OpB} {f : Nat × Nat}, changesB s n at' ks os = .inr f → at' ≤ s.length → 1 ≤ f.1 ∧ f.1 ≤ 14 ∧ f.2 ≤ s.length
  | 0, at', ks, os, f, h, hle => by cases h
  | n + 1, at', ks, os, f, h, hle => by
    unfold changesB at h
    cases hc : changeB s at' ks with
    | inr g => rw [hc] at h; cases h; exact changeB_at hc hle
    | inl x =>
      obtain ⟨o, m⟩ := x
      rw [hc] at h
      obtain ⟨h1, h2, h3⟩ := changeB_inl hc
      refine changesB_at h ?_
      have := congrArg List.length h2
      rw [List.length_append, List.length_drop, List.length_drop] at this
      have hp := @opBytes_length o
      omega
/-- where a fault of Decode's stands -/
theorem refDecB_at {s : List UInt8} {f : Nat × Nat} (h : refDecB s = .inr f) : 1 ≤ f.1 ∧ f.1 ≤ 14 ∧ f.2 ≤ s.length := by
  unfold refDecB at h
  split at h
  · cases h; simp
  · split at h
    · cases h; simp
    · split at h
      · cases h; simp only; omega
      · split at h
        · cases h; simp only; omega
        · split at h
          · rename_i f' hc
            cases h
            exact changesB_at hc (by omega)
          · split at h
            · cases h; simp only; omega
            · cases h
theorem opWrong_kind (o : OpB) (ks : List K) (h : opWrong o ks ≠ 0) : 1 ≤ opWrong o ks ∧ opWrong o ks ≤ 14 := by
  refine ⟨by omega, ?_⟩
  unfold opWrong
  repeat' split
  all_goals omega
theorem wrongFrom_kind : ∀ (os : List OpB) (i : Nat) (ks : List K) {f : Nat × Nat}, wrongFrom i ks os = some f → 1 ≤ f.1 ∧ f.1 ≤ 14 ∧ i ≤ f.2 ∧ f.2 < i + os.length
  | [], i, ks, f, h => by cases h
  | o :: os, i, ks, f, h => by
    unfold wrongFrom at h
    split at h
    · have := wrongFrom_kind os (i + 1) _ h
      rw [List.length_cons]
      omega
    · rename_i h0
      cases h
      have := opWrong_kind o ks h0
      simp only [List.length_cons]
      omega
theorem wrongB_kind {v : Nat} {os : List OpB} {f : Nat × Nat} (h : wrongB v os = some f) : 1 ≤ f.1 ∧ f.1 ≤ 14 ∧ f.2 ≤ 8 := by
  unfold wrongB at h
  split at h
  · cases h; simp
  · split at h
    · cases h; simp
    · have := wrongFrom_kind os 0 [] h
      omega
end Go.Proofs.YtkkfmkhbdoeglaaGreatDoor
