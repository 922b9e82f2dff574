/- Tables that deltas that may be have laid; entries laid one by one. No program. No condition. -/
import Derived.Test.YtkkfmkhbdoeglaaGreatDoorApartPlain
import Derived.Test.YtkkfmkhbdoeglaaGreatDoorEncode
import Derived.Test.YtkkfmkhbdoeglaaGreatDoorEncAll
import Derived.Test.YtkkfmkhbdoeglaaGreatDoorDecAll
namespace Go.Proofs.YtkkfmkhbdoeglaaGreatDoor
open Go.RowKit

/-- entries that deltas that may be have laid -/
def EntGood (x : E) : Prop := 0 ≤ x.1.1 ∧ x.1.1 < 3 ∧ isKeyB x.1.1 x.1.2 = true ∧ isValueB x.1.1 x.2 = true
theorem mem_foldP : ∀ (os : List OpB) (S : List E) (x : E), x ∈ foldS S os → x ∈ S ∨ ∃ o ∈ os, o.kind = 1 ∧ x = (keyO o, o.val)
  | [], _, _, h => .inl h
  | o :: os, S, x, h => by
    rcases mem_foldP os (opS S o) x h with h | ⟨u, hu, e⟩
    · rcases (mem_op S o x).1 h with ⟨e1, e⟩ | ⟨h, -⟩
      · exact .inr ⟨o, by simp, e1, e⟩
      · exact .inl h
    · exact .inr ⟨u, by simp [hu], e⟩
theorem wrong_ops {v : Nat} {os : List OpB} (h : wrongB v os = none) : os.length ≤ 8 ∧ ∀ o ∈ os, (o.kind = 1 ∨ o.kind = 2) ∧ 0 ≤ o.table ∧ o.table < 3 ∧ isKeyB o.table o.key = true ∧ valOk o = true := by
  have hv : os.length ≤ 8 ∧ wrongFrom 0 [] os = none := by
    unfold wrongB at h
    split at h
    · cases h
    · split at h
      · cases h
      · exact ⟨by omega, h⟩
  refine ⟨hv.1, fun o ho => ?_⟩
  obtain ⟨k, hk, rfl⟩ := List.getElem_of_mem ho
  obtain ⟨ks, hks⟩ := wrongFrom_none_at os 0 [] hv.2 k hk
  obtain ⟨h1, h2, h3, h4, -, h6⟩ := opWrong_zero hks
  exact ⟨h1, h2, h3, h4, h6⟩
/-- so many entries, and such -/
structure TabGood (m : Nat) (S : List E) : Prop where
  len : S.length ≤ m
  sorted : SortedE S
  good : ∀ x ∈ S, EntGood x
theorem TabGood.nil (m : Nat) : TabGood m [] := ⟨Nat.zero_le _, SortedE.nil, fun _ h => by cases h⟩
theorem TabGood.fold {m : Nat} {S : List E} {v : Nat} {os : List OpB} (h : TabGood m S) (hw : wrongB v os = none) : TabGood (m + 8) (foldS S os) := by
  obtain ⟨h8, ho⟩ := wrong_ops hw
  refine ⟨?_, sorted_fold os h.sorted, fun x hx => ?_⟩
  · have := length_fold os h.sorted
    have := h.len
    omega
  · rcases mem_foldP os S x hx with hx | ⟨o, hm, hk, rfl⟩
    · exact h.good x hx
    · obtain ⟨-, h2, h3, h4, h6⟩ := ho o hm
      unfold valOk at h6
      rw [if_neg (by omega)] at h6
      exact ⟨h2, h3, h4, h6⟩
theorem TabGood.mono {m m' : Nat} {S : List E} (h : TabGood m S) (hm : m ≤ m') : TabGood m' S := ⟨Nat.le_trans h.len hm, h.sorted, h.good⟩
theorem TabGood.apply {m : Nat} {S : List E} (h : TabGood m S) (v : Nat) (os : List OpB) : TabGood (m + 8) (applyS v S os) := by
  unfold applyS
  cases hw : wrongB v os with
  | none => exact h.fold hw
  | some f => exact h.mono (by omega)
theorem laid_good (l : List E) : TabGood (8 * l.length) (laidS l) := by
  have key : ∀ (l : List E) (S : List E) (m : Nat), TabGood m S → TabGood (m + 8 * l.length) (l.foldl (fun S x => applyS 1 S [putOp x]) S) := by
    intro l
    induction l with
    | nil => intro S m h; exact h
    | cons x l ih =>
      intro S m h
      have := ih _ _ (h.apply 1 [putOp x])
      rw [List.foldl_cons]
      exact this.mono (by rw [List.length_cons]; omega)
  have := key l [] 0 (TabGood.nil 0)
  exact this.mono (by omega)
theorem TabGood.fit {m : Nat} {S : List E} (h : TabGood m S) : FitS S := fun x hx => by
  obtain ⟨g0, g2, g3, g4⟩ := h.good x hx
  have l1 := isKeyB_length g3
  have l2 := isValueB_length g0 g2 g4
  have hT : x.1.1 = 0 ∨ x.1.1 = 1 ∨ x.1.1 = 2 := by omega
  rcases hT with e | e | e <;> (rw [e] at l1 l2; unfold keyLen at l1; unfold valLen at l2; simp at l1 l2; omega)
/-- an entry that may be is laid -/
theorem wrong_put {x : E} (h : EntGood x) : wrongB 1 [putOp x] = none := by
  obtain ⟨h0, h3, hk, hv⟩ := h
  have h1 : opWrong (putOp x) [] = 0 := by
    unfold opWrong putOp valOk
    rw [if_neg (by simp only []; omega), if_neg (by simp only [hk]; decide), if_neg (by simp), if_neg (by simp only []; rw [if_neg (by decide), hv]; decide)]
  unfold wrongB
  rw [if_neg (by decide), if_neg (by simp)]
  unfold wrongFrom
  rw [if_pos h1]
  rfl
/-- sorted entries that may be come back as they are -/
theorem laid_same {S : List E} (hs : SortedE S) (hg : ∀ x ∈ S, EntGood x) : laidS S = S := by
  have key : ∀ (l p : List E), SortedE (p ++ l) → (∀ x ∈ l, EntGood x) → l.foldl (fun S x => applyS 1 S [putOp x]) p = p ++ l := by
    intro l
    induction l with
    | nil => intro p _ _; simp
    | cons x l ih =>
      intro p hp hgl
      have h1 : applyS 1 p [putOp x] = p ++ [x] := by
        unfold applyS
        rw [wrong_put (hgl x (by simp))]
        show putS (x.1.1, x.1.2) x.2 p = _
        have hlt : ∀ y ∈ p, ltK y.1 x.1 = true := fun y hy => (List.pairwise_append.1 hp).2.2 y hy x (by simp)
        unfold putS
        rw [List.filter_eq_self.2 hlt, List.filter_eq_nil_iff.2 (fun y hy => by rw [ltK_asymm (hlt y hy)]; decide)]
      rw [List.foldl_cons, h1, ih (p ++ [x]) (by simpa using hp) (fun y hy => hgl y (by simp [hy]))]
      simp
  exact key S [] hs hg
end Go.Proofs.YtkkfmkhbdoeglaaGreatDoor

/- A state comes back from its bytes, and bytes from the state that is read of them. No program. No condition. -/
namespace Go.Proofs.YtkkfmkhbdoeglaaGreatDoor
open Go.RowKit

theorem ofNat_toNat8 (x : UInt8) : UInt8.ofNat x.toNat = x := by simp
theorem entBytes_eq (x : E) : entBytes x = UInt8.ofNat x.1.1.toNat :: (x.1.2 ++ x.2) := rfl
/-- an entry is read of its bytes -/
theorem entryB_enc (s : List UInt8) (q : Nat) (o : Option K) (x : E) (rest : List UInt8) (hg : EntGood x) (ho : ∀ k, o = some k → ltK k x.1 = true) (hd : s.drop q = entBytes x ++ rest) :
    entryB s q o = .inl (x, q + (entBytes x).length) := by
  obtain ⟨⟨T, kb⟩, vb⟩ := x
  obtain ⟨g0, g3, hk, hv⟩ := hg
  simp only at g0 g3 hk hv
  have lk := isKeyB_length hk
  have lv := isValueB_length g0 g3 hv
  have ht : ((UInt8.ofNat T.toNat).toNat : Int) = T := by simp; omega
  have e0 : s.drop q = UInt8.ofNat T.toNat :: (kb ++ vb ++ rest) := by rw [hd, entBytes_eq]; simp
  have t1 : (kb ++ vb ++ rest).take (keyLen T) = kb := by rw [List.append_assoc, ← lk, List.take_left]
  have t2 : ((kb ++ vb ++ rest).drop (keyLen T)).take (valLen T) = vb := by rw [List.append_assoc, ← lk, List.drop_left, ← lv, List.take_left]
  have hl : (kb ++ vb ++ rest).length = keyLen T + valLen T + rest.length := by simp [lk, lv]; omega
  have hq : q + (entBytes ((T, kb), vb)).length = q + 1 + keyLen T + valLen T := by rw [entBytes_eq]; simp [lk, lv]; omega
  unfold entryB
  rw [e0, hq]
  simp only [ht, t1, t2]
  rw [if_neg (by omega), if_neg (by omega), if_neg (by rw [hk]; decide)]
  have h4 : ∀ b : Bool, (b = true) → (if b = false then Sum.inr (14, q + 1) else if (kb ++ vb ++ rest).length < keyLen T + valLen T then .inr (1, q + 1 + keyLen T) else if isValueB T vb = false then .inr (9, q + 1 + keyLen T) else .inl (((T, kb), vb), q + 1 + keyLen T + valLen T) : (E × Nat) ⊕ (Nat × Nat)) = .inl (((T, kb), vb), q + 1 + keyLen T + valLen T) := by
    intro b hb
    rw [hb, if_neg (by decide), if_neg (by omega), if_neg (by rw [hv]; decide)]
  cases o with
  | none => exact h4 true rfl
  | some k => exact h4 _ (ho k rfl)
theorem entriesB_enc (s : List UInt8) : ∀ (l es : List E) (q : Nat) (rest : List UInt8), SortedE (es ++ l) → (∀ x ∈ l, EntGood x) → s.drop q = entsB l ++ rest → entriesB s l.length q es = .inl (q + (entsB l).length, es ++ l)
  | [], es, q, rest, _, _, _ => by simp [entriesB, entsB]
  | x :: l, es, q, rest, hs, hg, hd => by
    have e1 : entsB (x :: l) = entBytes x ++ entsB l := rfl
    have hlt : ∀ k, es.getLast?.map (·.1) = some k → ltK k x.1 = true := fun k hk => by
      cases hz : es.getLast? with
      | none => rw [hz] at hk; cases hk
      | some z =>
        rw [hz] at hk
        cases hk
        exact (List.pairwise_append.1 hs).2.2 z (List.mem_of_getLast? hz) x (by simp)
    have h1 := entryB_enc s q (es.getLast?.map (·.1)) x (entsB l ++ rest) (hg x (by simp)) hlt (by rw [hd, e1, List.append_assoc])
    have ih := entriesB_enc s l (es ++ [x]) (q + (entBytes x).length) rest (by simpa using hs) (fun y hy => hg y (by simp [hy])) (by rw [← List.drop_drop, hd, e1, List.append_assoc, List.drop_left])
    rw [List.length_cons, entriesB, h1]
    simp only []
    rw [ih, e1, List.length_append, Nat.add_assoc]
    simp
/-- a state comes back from its bytes -/
theorem decAllB_enc {v : Nat} {S : List E} (hv : isVersionB v = true) (hs : SortedE S) (hg : ∀ x ∈ S, EntGood x) (hl : S.length < 65536) : decAllB (allB v S) = .inl (v, S) := by
  have h8 : (be8 v).length = 8 := be8_length v
  have e : allB v S = be8 v ++ (UInt8.ofNat (S.length / 256) :: UInt8.ofNat S.length :: entsB S) := by unfold allB; simp
  have e8 : (allB v S).take 8 = be8 v := by rw [e, ← h8, List.take_left]
  have ed : (allB v S).drop 8 = UInt8.ofNat (S.length / 256) :: UInt8.ofNat S.length :: entsB S := by rw [e, ← h8, List.drop_left]
  have el : (allB v S).length = 10 + (entsB S).length := by rw [e]; simp [h8]; omega
  have e88 : (allB v S).getD 8 0 = UInt8.ofNat (S.length / 256) := by
    have : ((allB v S).drop 8)[0]? = some (UInt8.ofNat (S.length / 256)) := by rw [ed]; rfl
    rw [List.getElem?_drop] at this
    rw [List.getD_eq_getElem?_getD, this]; rfl
  have e89 : (allB v S).getD 9 0 = UInt8.ofNat S.length := by
    have : ((allB v S).drop 8)[1]? = some (UInt8.ofNat S.length) := by rw [ed]; rfl
    rw [List.getElem?_drop] at this
    rw [List.getD_eq_getElem?_getD, this]; rfl
  have ed10 : (allB v S).drop 10 = entsB S ++ [] := by
    have : ((allB v S).drop 8).drop 2 = entsB S := by rw [ed]; rfl
    rw [List.drop_drop] at this
    rw [this, List.append_nil]
  have hn : (UInt8.ofNat (S.length / 256)).toNat * 256 + (UInt8.ofNat S.length).toNat = S.length := by simp; omega
  rw [decAllB_ref]
  unfold refDecAllB
  rw [if_neg (by omega), e8, numB_be8 v (isVersionB_lt hv), if_neg (by rw [hv]; decide), if_neg (by omega), e88, e89, hn, entriesB_enc (allB v S) S [] 10 [] hs hg ed10]
  simp only []
  rw [if_neg (by omega), List.nil_append]
theorem entryB_dec {s : List UInt8} {q q' : Nat} {o : Option K} {x : E} (h : entryB s q o = .inl (x, q')) : EntGood x ∧ s.drop q = entBytes x ++ s.drop q' := by
  obtain ⟨-, -, h0, h3, hk, hv, -⟩ := entryB_inl h
  refine ⟨⟨h0, h3, hk, hv⟩, ?_⟩
  have lk := isKeyB_length hk
  have lv := isValueB_length h0 h3 hv
  unfold entryB at h
  cases hd : s.drop q with
  | nil => rw [hd] at h; cases h
  | cons t r =>
    rw [hd] at h
    have key : ∀ c : Bool, (if 2 < t.toNat then Sum.inr (6, q)
      else if r.length < keyLen (t.toNat : Int) then .inr (1, q + 1)
      else if isKeyB (t.toNat : Int) (r.take (keyLen (t.toNat : Int))) = false then .inr (7, q + 1)
      else if c = false then .inr (14, q + 1)
      else if r.length < keyLen (t.toNat : Int) + valLen (t.toNat : Int) then .inr (1, q + 1 + keyLen (t.toNat : Int))
      else if isValueB (t.toNat : Int) ((r.drop (keyLen (t.toNat : Int))).take (valLen (t.toNat : Int))) = false then .inr (9, q + 1 + keyLen (t.toNat : Int))
      else .inl ((((t.toNat : Int), r.take (keyLen (t.toNat : Int))), (r.drop (keyLen (t.toNat : Int))).take (valLen (t.toNat : Int))), q + 1 + keyLen (t.toNat : Int) + valLen (t.toNat : Int))) = (.inl (x, q') : (E × Nat) ⊕ (Nat × Nat)) →
      x = (((t.toNat : Int), r.take (keyLen (t.toNat : Int))), (r.drop (keyLen (t.toNat : Int))).take (valLen (t.toNat : Int))) ∧ q' = q + 1 + keyLen (t.toNat : Int) + valLen (t.toNat : Int) := by
      intro c h
      split at h
      · cases h
      split at h
      · cases h
      split at h
      · cases h
      split at h
      · cases h
      split at h
      · cases h
      split at h
      · cases h
      obtain ⟨hx, hq⟩ := Prod.mk.inj (Sum.inl.inj h)
      exact ⟨hx.symm, hq.symm⟩
    have hx : x = (((t.toNat : Int), r.take (keyLen (t.toNat : Int))), (r.drop (keyLen (t.toNat : Int))).take (valLen (t.toNat : Int))) ∧ q' = q + 1 + keyLen (t.toNat : Int) + valLen (t.toNat : Int) := by
      cases o with
      | none => exact key true h
      | some k0 => exact key _ h
    obtain ⟨rfl, rfl⟩ := hx
    have hr := (drop1 hd).1
    rw [entBytes_eq]
    simp only [Int.toNat_natCast, ofNat_toNat8]
    have e2 : s.drop (q + 1 + keyLen (t.toNat : Int) + valLen (t.toNat : Int)) = (r.drop (keyLen (t.toNat : Int))).drop (valLen (t.toNat : Int)) := by
      rw [← hr, List.drop_drop, List.drop_drop, Nat.add_assoc]
    rw [e2, List.cons_append, List.append_assoc, List.take_append_drop, List.take_append_drop]
theorem entriesB_dec {s : List UInt8} : ∀ {n q q' : Nat} {es es' : List E}, entriesB s n q es = .inl (q', es') → q ≤ s.length → ∃ l, es' = es ++ l ∧ (∀ x ∈ l, EntGood x) ∧ s.drop q = entsB l ++ s.drop q' ∧ q' ≤ s.length
  | 0, q, q', es, es', h, hq => by
    obtain ⟨rfl, rfl⟩ := Prod.mk.inj (Sum.inl.inj h)
    exact ⟨[], by simp, (fun x hx => by cases hx), by simp [entsB], hq⟩
  | n + 1, q, q', es, es', h, hq => by
    unfold entriesB at h
    cases he : entryB s q (es.getLast?.map (·.1)) with
    | inr f => rw [he] at h; cases h
    | inl xq =>
      obtain ⟨x, q2⟩ := xq
      rw [he] at h
      obtain ⟨l, rfl, hl, hd, hq'⟩ := entriesB_dec h (entryB_inl he).2.1
      obtain ⟨hx, hdx⟩ := entryB_dec he
      refine ⟨x :: l, by simp, fun y hy => ?_, ?_, hq'⟩
      · rcases List.mem_cons.1 hy with rfl | hy
        · exact hx
        · exact hl y hy
      · rw [hdx, hd]
        show _ = entBytes x ++ entsB l ++ _
        rw [List.append_assoc]
/-- bytes come back from the state that is read of them -/
theorem decAllB_dec {s : List UInt8} {n : Nat} {S : List E} (h : decAllB s = .inl (n, S)) : isVersionB n = true ∧ (∀ x ∈ S, EntGood x) ∧ allB n S = s := by
  have hlen := (decAllB_inl h).1
  rw [decAllB_ref] at h
  unfold refDecAllB at h
  split at h
  · cases h
  split at h
  · cases h
  split at h
  · cases h
  rename_i h1 h2 h3
  cases hc : entriesB s ((s.getD 8 0).toNat * 256 + (s.getD 9 0).toNat) 10 [] with
  | inr f => rw [hc] at h; cases h
  | inl x =>
    obtain ⟨q', es'⟩ := x
    rw [hc] at h
    simp only at h
    split at h
    · cases h
    rename_i h4
    obtain ⟨rfl, rfl⟩ := Prod.mk.inj (Sum.inl.inj h)
    have hnum := entriesB_len hc
    obtain ⟨l, hl, hgood, hd, hq⟩ := entriesB_dec hc (by omega)
    rw [List.nil_append] at hl
    subst hl
    rw [List.length_nil, Nat.zero_add] at hnum
    refine ⟨by simpa using h2, hgood, ?_⟩
    have hnil : s.drop q' = [] := List.drop_eq_nil_of_le (by omega)
    rw [hnil, List.append_nil] at hd
    have ha := (s.getD 8 0).toNat_lt
    have hb := (s.getD 9 0).toNat_lt
    have ha' : (s.getD 8 0).toNat < 256 := ha
    have hb' : (s.getD 9 0).toNat < 256 := hb
    have q1 : es'.length / 256 = (s.getD 8 0).toNat := by omega
    have q2 : UInt8.ofNat es'.length = s.getD 9 0 := by
      apply UInt8.toNat_inj.1
      have h9 : (UInt8.ofNat es'.length).toNat = es'.length % 256 := by simp
      rw [h9]
      omega
    unfold allB
    rw [be8_numB _ (by rw [List.length_take]; omega), q1, ofNat_toNat8, q2, ← hd]
    have g8 : s.getD 8 0 = s[8]'(by omega) := by rw [List.getD_eq_getElem?_getD, List.getElem?_eq_getElem (by omega)]; rfl
    have g9 : s.getD 9 0 = s[9]'(by omega) := by rw [List.getD_eq_getElem?_getD, List.getElem?_eq_getElem (by omega)]; rfl
    rw [g8, g9]
    have e8 : s.drop 8 = s[8]'(by omega) :: s[9]'(by omega) :: s.drop 10 := by
      rw [List.drop_eq_getElem_cons (by omega), List.drop_eq_getElem_cons (by omega)]
    calc s.take 8 ++ [s[8]'(by omega), s[9]'(by omega)] ++ s.drop 10 = s.take 8 ++ s.drop 8 := by rw [e8]; simp
      _ = s := List.take_append_drop 8 s
end Go.Proofs.YtkkfmkhbdoeglaaGreatDoor
