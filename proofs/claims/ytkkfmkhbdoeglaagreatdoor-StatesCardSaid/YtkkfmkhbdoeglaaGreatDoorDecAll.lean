/- What package overlay's DecodeAll answers, in plain data. No program. No condition. -/
import Derived.Test.YtkkfmkhbdoeglaaGreatDoorEncAll
import Derived.Test.YtkkfmkhbdoeglaaGreatDoorDecode
import Derived.Deep.CutBlock
namespace Go.Proofs.YtkkfmkhbdoeglaaGreatDoor
open Go.RowKit

/-- DecodeAll's round: the cursor, and the entry (none: the loop is left) -/
def Cu.ent (c : Cu) (last : K) : Cu × Option E :=
  let a := c.take 1
  let T : Int := ((a.2.headD 0).toNat : Int)
  let c1 := a.1.must (decide (T < 3)) 6
  match c1.f with
  | some _ => (c1, none)
  | none =>
    let b := c1.take (keyLen T)
    let c2 := (b.1.must (isKeyB T b.2) 7).must (decide (cmpK last (T, b.2) < 0)) 14
    let d := c2.take (valLen T)
    (d.1.must (isValueB T d.2) 9, some ((T, b.2), d.2))
def allLoop : Nat → Cu → K → List E → Cu × List E
  | 0, c, _, S => (c, S)
  | n + 1, c, last, S =>
    match c.f with
    | some _ => (c, S)
    | none =>
      match c.ent last with
      | (c', none) => (c', S)
      | (c', some x) => allLoop n c' x.1 (putS x.1 x.2 S)
/-- the state that bytes are, or a fault and where -/
def decAllB (l : List UInt8) : (Nat × List E) ⊕ (Nat × Nat) :=
  let a := Cu.take ⟨l, 0, 0, none⟩ 8
  let b := (a.1.must (isVersionB (numB a.2)) 4).take 2
  let L := allLoop ((b.2.getD 0 0).toNat * 256 + (b.2.getD 1 0).toNat) b.1 (-1, []) []
  match L.1.ended.f with
  | some f => .inr f
  | none => .inl (numB a.2, L.2)
theorem must_f {c : Cu} {ok : Bool} {k : Nat} (h : (c.must ok k).f = none) : c.f = none ∧ ok = true := by
  obtain ⟨l, a, t, f⟩ := c
  cases f with
  | some f => simp [Cu.must] at h
  | none => cases ok <;> simp [Cu.must] at h ⊢
theorem take_f {c : Cu} {n : Nat} (h : (c.take n).1.f = none) : c.f = none := by
  obtain ⟨l, a, t, f⟩ := c
  cases f with
  | some f => simp [Cu.take] at h
  | none => rfl
theorem allLoop_fault {n : Nat} {c : Cu} {last : K} {S : List E} {f : Nat × Nat} (h : c.f = some f) : (allLoop n c last S).1 = c := by
  cases n with
  | zero => rfl
  | succ n => unfold allLoop; rw [h]
theorem allLoop_step {n : Nat} {c c' : Cu} {last : K} {S : List E} {x : E} (hf : c.f = none) (h : c.ent last = (c', some x)) : allLoop (n + 1) c last S = allLoop n c' x.1 (putS x.1 x.2 S) := by
  conv => lhs; unfold allLoop
  rw [hf, h]
theorem allLoop_break {n : Nat} {c c' : Cu} {last : K} {S : List E} (hf : c.f = none) (h : c.ent last = (c', none)) : allLoop (n + 1) c last S = (c', S) := by
  conv => lhs; unfold allLoop
  rw [hf, h]
theorem ent_break {c : Cu} {last : K} {t : UInt8} {f : Nat × Nat} (ht : (c.take 1).2 = [t]) (hf : ((c.take 1).1.must (decide ((t.toNat : Int) < 3)) 6).f = some f) : c.ent last = ((c.take 1).1.must (decide ((t.toNat : Int) < 3)) 6, none) := by
  unfold Cu.ent
  simp only [ht, List.headD_cons, hf]
theorem ent_go {c c1 : Cu} {last : K} {t : UInt8} (ht : (c.take 1).2 = [t]) (h1 : c1 = (c.take 1).1.must (decide ((t.toNat : Int) < 3)) 6) (hf : c1.f = none) {T : Int} (hT : T = t.toNat) {b d : Cu × List UInt8} {c2 : Cu} (hb : b = c1.take (keyLen T)) (h2 : c2 = (b.1.must (isKeyB T b.2) 7).must (decide (cmpK last (T, b.2) < 0)) 14) (hd : d = c2.take (valLen T)) :
    c.ent last = (d.1.must (isValueB T d.2) 9, some ((T, b.2), d.2)) := by
  subst hd h2 hb hT
  unfold Cu.ent
  simp only [ht, List.headD_cons, ← h1, hf]
theorem shapes_key {w : World} (h : ShapesVar w) (t : UInt8) (ht : t.toNat < 3) : w.cell? ⟨1, t.toNat * 2, none⟩ = some (.int .i64 (keyLen (t.toNat : Int))) := by
  have : t.toNat = 0 ∨ t.toNat = 1 ∨ t.toNat = 2 := by omega
  rcases this with e | e | e <;> rw [e]
  · exact h.c0
  · exact h.c2
  · exact h.c4
theorem shapes_val {w : World} (h : ShapesVar w) (t : UInt8) (ht : t.toNat < 3) : w.cell? ⟨1, t.toNat * 2 + 1, none⟩ = some (.int .i64 (valLen (t.toNat : Int))) := by
  have : t.toNat = 0 ∨ t.toNat = 1 ∨ t.toNat = 2 := by omega
  rcases this with e | e | e <;> rw [e]
  · exact h.c1
  · exact h.c3
  · exact h.c5
theorem grow_below (w : World) (q : Nat) (os : Array Obj) : Below w.heap.size w (Sort.grow (w.drewN q) os) := by
  refine ⟨rfl, rfl, rfl, ?_, fun k hk => ?_⟩
  · show w.heap.size ≤ (w.heap ++ os).size
    rw [Array.size_append]; omega
  · show (w.heap ++ os)[k]? = _
    exact Array.getElem?_append_left hk
theorem keyLen_le (T : Int) : keyLen T ≤ 100 := by unfold keyLen; split <;> (try split) <;> omega
theorem keyLen_pos (T : Int) : 1 ≤ keyLen T := by unfold keyLen; split <;> (try split) <;> omega
theorem valLen_le (T : Int) : valLen T ≤ 100 := by unfold valLen; split <;> (try split) <;> omega
theorem valLen_pos (T : Int) : 1 ≤ valLen T := by unfold valLen; split <;> (try split) <;> omega
/-- what holds between two steps of DecodeAll's loop -/
structure AllSt (w5 : World) (base c r Bl : Nat) (cu : Cu) (last : K) (S : List E) (W : World) : Prop where
  cur : CurAt W base c cu
  tab : TabAt W r S
  cell : W.cell? ⟨r + 1, 0, none⟩ = some (.map (some r))
  box : W.heap[Bl]? = some (.cells #[.int .i64 last.1, .string ⟨last.2.toArray⟩] 94 (0, 0))
  shp : ShapesVar W
  ext : Ext (fun i => i = c ∨ i = r ∨ i = Bl) w5 W
  geo : 2 ≤ base ∧ base ≤ c ∧ c < r ∧ r + 1 < Bl ∧ Bl < w5.heap.size
section
variable {w5 W W' : World} {base c r Bl : Nat} {cu cu' : Cu} {last : K} {S S' : List E}
theorem AllSt.size (h : AllSt w5 base c r Bl cu last S W) : w5.heap.size ≤ W.heap.size := h.ext.size
theorem AllSt.curs (h : AllSt w5 base c r Bl cu last S W) (hg : W.grownBy W' (some c)) (hc : CurAt W' base c cu') : AllSt w5 base c r Bl cu' last S W' := by
  obtain ⟨g1, g2, g3, g4, g5⟩ := h.geo
  have hs := h.size
  exact ⟨hc, h.tab.old (hg.block r h.tab.lt (fun e => by cases e; omega)), (World.cell?_of_block (a := ⟨r + 1, 0, none⟩) (hg.block (r + 1) (by omega) (fun e => by cases e; omega))).trans h.cell,
    (hg.block Bl (by omega) (fun e => by cases e; omega)).trans h.box, h.shp.grown hg (by omega), h.ext.grow hg (.inl (.inl rfl)), h.geo⟩
theorem AllSt.fresh (h : AllSt w5 base c r Bl cu last S W) (hb : Below W.heap.size W W') : AllSt w5 base c r Bl cu last S W' := by
  obtain ⟨g1, g2, g3, g4, g5⟩ := h.geo
  have hs := h.size
  exact ⟨h.cur.old hb, h.tab.old (hb.block r h.tab.lt), (hb.cell (p := ⟨r + 1, 0, none⟩) (show r + 1 < _ by omega)).trans h.cell, (hb.block Bl (by omega)).trans h.box, h.shp.new hb, h.ext.past hb, h.geo⟩
theorem AllSt.put (h : AllSt w5 base c r Bl cu last S W) (hg : W.grownBy W' (some r)) (ht : TabAt W' r S') : AllSt w5 base c r Bl cu last S' W' := by
  obtain ⟨g1, g2, g3, g4, g5⟩ := h.geo
  have hs := h.size
  refine ⟨h.cur.grown hg g3 ?_, ht, (World.cell?_of_block (a := ⟨r + 1, 0, none⟩) (hg.block (r + 1) (by omega) (fun e => by simp at e))).trans h.cell,
    (hg.block Bl (by omega) (fun e => by cases e; omega)).trans h.box, h.shp.grown hg (by omega), h.ext.grow hg (.inl (.inr (.inl rfl))), h.geo⟩
  obtain ⟨-, L, hm, -⟩ := h.tab
  exact hm.noFault
theorem AllSt.step (h : AllSt w5 base c r Bl cu last S W) (k : K) : AllSt w5 base c r Bl cu k S ((W.setCell ⟨Bl, 0, none⟩ (.int .i64 k.1)).setCell ⟨Bl, 1, none⟩ (.string ⟨k.2.toArray⟩)) := by
  obtain ⟨g1, g2, g3, g4, g5⟩ := h.geo
  have hs := h.size
  have hg : W.grownBy ((W.setCell ⟨Bl, 0, none⟩ (.int .i64 k.1)).setCell ⟨Bl, 1, none⟩ (.string ⟨k.2.toArray⟩)) (some Bl) := grownBy_set2 (grownBy_set (Below.refl _ W) 0 _) 1 _
  exact ⟨h.cur.grown hg (by omega) (fun k' m e => by rw [h.box] at e; simp at e), h.tab.old (hg.block r h.tab.lt (fun e => by cases e; omega)), (World.cell?_of_block (a := ⟨r + 1, 0, none⟩) (hg.block (r + 1) (by omega) (fun e => by cases e; omega))).trans h.cell,
    heap_setCell _ _ 1 _ (heap_setCell _ _ 0 _ h.box), h.shp.grown hg (by omega), h.ext.grow hg (.inl (.inr (.inr rfl))), h.geo⟩
/-- a write into the round's own box -/
theorem AllSt.mine (h : AllSt w5 base c r Bl cu last S W) {B : Nat} {C : Array Value} {T : TypeId} {fz : Nat × Nat} (hB : W.heap[B]? = some (.cells C T fz)) (hl : Bl < B) (hT : T ≠ 166) (hg : W.grownBy W' (some B)) (h5 : w5.heap.size ≤ B) : AllSt w5 base c r Bl cu last S W' := by
  obtain ⟨g1, g2, g3, g4, g5⟩ := h.geo
  have hs := h.size
  exact ⟨h.cur.grown hg (by omega) (fun k' m e => by rw [hB] at e; injection e with e; injection e with _ e _; exact hT e), h.tab.old (hg.block r h.tab.lt (fun e => by cases e; omega)), (World.cell?_of_block (a := ⟨r + 1, 0, none⟩) (hg.block (r + 1) (by omega) (fun e => by cases e; omega))).trans h.cell,
    (hg.block Bl (by omega) (fun e => by cases e; omega)).trans h.box, h.shp.grown hg (by omega), h.ext.grow hg (.inr h5), h.geo⟩
/-- the round's own box -/
theorem AllSt.boxes (h : AllSt w5 base c r Bl cu last S W) {B : Nat} {o : Obj} (hB : W.heap[B]? = some o) (hc : c < B) (hg : W.grownBy W' (some c)) : W'.heap[B]? = some o :=
  (hg.block B (block_lt hB) (fun e => by cases e; omega)).trans hB
end
end Go.Proofs.YtkkfmkhbdoeglaaGreatDoor

/- What the references' DecodeAll answers, in plain data. No program. No condition. -/
namespace Go.Proofs.YtkkfmkhbdoeglaaGreatDoor
open Go.RowKit

/-- does a key stand behind another one (or is there none)? -/
def afterB (last : Option K) (k : K) : Bool := match last with
  | none => true
  | some k0 => ltK k0 k
/-- the entry at a place, behind another one; the place behind it; or a fault and where -/
def entryB (s : List UInt8) (at' : Nat) (last : Option K) : (E × Nat) ⊕ (Nat × Nat) :=
  match s.drop at' with
  | [] => .inr (1, at')
  | t :: r =>
    if 2 < t.toNat then .inr (6, at')
    else if r.length < keyLen t.toNat then .inr (1, at' + 1)
    else if isKeyB t.toNat (r.take (keyLen t.toNat)) = false then .inr (7, at' + 1)
    else if (afterB last ((t.toNat : Int), r.take (keyLen t.toNat))) = false then .inr (14, at' + 1)
    else if r.length < keyLen t.toNat + valLen t.toNat then .inr (1, at' + 1 + keyLen t.toNat)
    else if isValueB t.toNat ((r.drop (keyLen t.toNat)).take (valLen t.toNat)) = false then .inr (9, at' + 1 + keyLen t.toNat)
    else .inl ((((t.toNat : Int), r.take (keyLen t.toNat)), (r.drop (keyLen t.toNat)).take (valLen t.toNat)), at' + 1 + keyLen t.toNat + valLen t.toNat)
theorem keyLen_six (T : Int) : keyLen T ≤ 6 := by unfold keyLen; split <;> (try split) <;> omega
theorem valLen_four (T : Int) : valLen T ≤ 4 := by unfold valLen; split <;> (try split) <;> omega
theorem ext_str (s : List UInt8) (a n : Nat) : (⟨s.toArray⟩ : ByteArray).extract a (a + n) = ⟨((s.drop a).take n).toArray⟩ := by
  rw [ByteArray.extract_mk]
  congr 1
  simp
theorem drop1 {l : List UInt8} {q : Nat} {x : UInt8} {r : List UInt8} (h : l.drop q = x :: r) : l.drop (q + 1) = r ∧ l.length = q + 1 + r.length ∧ l[q]? = some x := by
  have h1 : (l.drop q).drop 1 = r := by rw [h]; rfl
  rw [List.drop_drop] at h1
  have h2 := congrArg List.length h
  rw [List.length_drop, List.length_cons] at h2
  refine ⟨h1, by omega, ?_⟩
  have h3 : (l.drop q)[0]? = some x := by rw [h]; rfl
  rwa [List.getElem?_drop, Nat.add_zero] at h3
/-- so many entries from a place on, behind others -/
def entriesB (s : List UInt8) : Nat → Nat → List E → (Nat × List E) ⊕ (Nat × Nat)
  | 0, at', l => .inl (at', l)
  | n + 1, at', l =>
    match entryB s at' (l.getLast?.map (·.1)) with
    | .inr f => .inr f
    | .inl (x, q) => entriesB s n q (l ++ [x])
def refDecAllB (s : List UInt8) : (Nat × List E) ⊕ (Nat × Nat) :=
  if s.length < 8 then .inr (1, 0)
  else if isVersionB (numB (s.take 8)) = false then .inr (4, 0)
  else if s.length < 10 then .inr (1, 8)
  else match entriesB s ((s.getD 8 0).toNat * 256 + (s.getD 9 0).toNat) 10 [] with
    | .inr f => .inr f
    | .inl (q, l) => if q < s.length then .inr (2, q) else .inl (numB (s.take 8), l)
theorem put_end {S : List E} {k : K} {v : List UInt8} (h : ∀ x ∈ S, ltK x.1 k = true) : putS k v S = S ++ [(k, v)] := by
  unfold putS
  rw [List.filter_eq_self.2 h, List.filter_eq_nil_iff.2 (fun x hx => by rw [ltK_asymm (h x hx)]; decide)]
theorem entryB_inl {s : List UInt8} {at' q : Nat} {last : Option K} {x : E} (h : entryB s at' last = .inl (x, q)) : at' < q ∧ q ≤ s.length ∧ 0 ≤ x.1.1 ∧ x.1.1 < 3 ∧ isKeyB x.1.1 x.1.2 = true ∧ isValueB x.1.1 x.2 = true ∧ (∀ k, last = some k → ltK k x.1 = true) := by
  unfold entryB at h
  split at h
  · cases h
  · rename_i t r hd
    have hl := (drop1 hd).2.1
    have key : ∀ c : Bool, (∀ k, last = some k → c = ltK k ((t.toNat : Int), r.take (keyLen (t.toNat : Int)))) → (if 2 < t.toNat then Sum.inr (6, at')
      else if r.length < keyLen (t.toNat : Int) then .inr (1, at' + 1)
      else if isKeyB (t.toNat : Int) (r.take (keyLen (t.toNat : Int))) = false then .inr (7, at' + 1)
      else if c = false then .inr (14, at' + 1)
      else if r.length < keyLen (t.toNat : Int) + valLen (t.toNat : Int) then .inr (1, at' + 1 + keyLen (t.toNat : Int))
      else if isValueB (t.toNat : Int) ((r.drop (keyLen (t.toNat : Int))).take (valLen (t.toNat : Int))) = false then .inr (9, at' + 1 + keyLen (t.toNat : Int))
      else .inl ((((t.toNat : Int), r.take (keyLen (t.toNat : Int))), (r.drop (keyLen (t.toNat : Int))).take (valLen (t.toNat : Int))), at' + 1 + keyLen (t.toNat : Int) + valLen (t.toNat : Int))) = (.inl (x, q) : (E × Nat) ⊕ (Nat × Nat)) →
      at' < q ∧ q ≤ s.length ∧ 0 ≤ x.1.1 ∧ x.1.1 < 3 ∧ isKeyB x.1.1 x.1.2 = true ∧ isValueB x.1.1 x.2 = true ∧ (∀ k, last = some k → ltK k x.1 = true) := by
      intro c hc h
      split at h
      · cases h
      split at h
      · cases h
      split at h
      · cases h
      split at h
      · cases h
      split at h
      · cases h
      split at h
      · cases h
      rename_i h1 h2 h3 h4 h5 h6
      obtain ⟨hx, hq⟩ := Prod.mk.inj (Sum.inl.inj h)
      subst hx hq
      exact ⟨by omega, by omega, by simp, by simp only []; omega, by simpa using h3, by simpa using h6, fun k hk => by rw [← hc k hk]; simpa using h4⟩
    cases last with
    | none => exact key true (fun k hk => by (cases hk)) h
    | some k0 => exact key _ (fun k hk => by (cases hk; rfl)) h
theorem entryB_inr {s : List UInt8} {at' : Nat} {last : Option K} {k p : Nat} (h : entryB s at' last = .inr (k, p)) (ha : at' ≤ s.length) : 1 ≤ k ∧ k ≤ 14 ∧ p ≤ s.length := by
  unfold entryB at h
  split at h
  · obtain ⟨rfl, rfl⟩ := Prod.mk.inj (Sum.inr.inj h); omega
  · rename_i t r hd
    have hl := (drop1 hd).2.1
    split at h
    · obtain ⟨rfl, rfl⟩ := Prod.mk.inj (Sum.inr.inj h); omega
    split at h
    · obtain ⟨rfl, rfl⟩ := Prod.mk.inj (Sum.inr.inj h); omega
    split at h
    · obtain ⟨rfl, rfl⟩ := Prod.mk.inj (Sum.inr.inj h); omega
    split at h
    · obtain ⟨rfl, rfl⟩ := Prod.mk.inj (Sum.inr.inj h); omega
    split at h
    · obtain ⟨rfl, rfl⟩ := Prod.mk.inj (Sum.inr.inj h); omega
    split at h
    · obtain ⟨rfl, rfl⟩ := Prod.mk.inj (Sum.inr.inj h); omega
    cases h
end Go.Proofs.YtkkfmkhbdoeglaaGreatDoor

/- DecodeAll answers as the reference's, in plain data. No condition. -/
namespace Go.Proofs.YtkkfmkhbdoeglaaGreatDoor
open Go.RowKit

theorem cmpK_dec (a b : K) : decide (cmpK a b < 0) = ltK a b := by
  unfold cmpK ltK cmpI cmpL
  rcases Int.lt_trichotomy a.1 b.1 with h | h | h
  · simp [h]
  · have h1 : ¬ a.1 < b.1 := by omega
    have h2 : ¬ b.1 < a.1 := by omega
    simp only [h1, h2, if_false, h]
    simp
    by_cases h3 : a.2 < b.2
    · simp [h3]
    · simp only [h3, if_false, iff_false]
      split <;> decide
  · have h1 : ¬ a.1 < b.1 := by omega
    have h2 : ¬ a.1 = b.1 := by omega
    simp [h, h1, h2]
/-- DecodeAll's last key, and the reference's -/
def LastK (o : Option K) (last : K) : Prop := (o = none ∧ last = (-1, [])) ∨ o = some last
theorem first_lt (T : Nat) (k : List UInt8) : decide (cmpK (-1, []) ((T : Int), k) < 0) = true := by
  rw [cmpK_dec]
  simp [ltK]; omega
/-- the references' chain, where the order's test is named -/
theorem Cu.ent_chain (l : List UInt8) (a q : Nat) (last : K) (t : UInt8) (r : List UInt8) (c : Bool) (h : l.drop q = t :: r) (hc : decide (cmpK last ((t.toNat : Int), r.take (keyLen (t.toNat : Int))) < 0) = c) :
    match (if 2 < t.toNat then Sum.inr (6, q)
      else if r.length < keyLen (t.toNat : Int) then .inr (1, q + 1)
      else if isKeyB (t.toNat : Int) (r.take (keyLen (t.toNat : Int))) = false then .inr (7, q + 1)
      else if c = false then .inr (14, q + 1)
      else if r.length < keyLen (t.toNat : Int) + valLen (t.toNat : Int) then .inr (1, q + 1 + keyLen (t.toNat : Int))
      else if isValueB (t.toNat : Int) ((r.drop (keyLen (t.toNat : Int))).take (valLen (t.toNat : Int))) = false then .inr (9, q + 1 + keyLen (t.toNat : Int))
      else .inl ((((t.toNat : Int), r.take (keyLen (t.toNat : Int))), (r.drop (keyLen (t.toNat : Int))).take (valLen (t.toNat : Int))), q + 1 + keyLen (t.toNat : Int) + valLen (t.toNat : Int)) : (E × Nat) ⊕ (Nat × Nat)) with
    | .inr f => ((⟨l, a, q, none⟩ : Cu).ent last).1.f = some f
    | .inl (x, q') => ∃ a', (⟨l, a, q, none⟩ : Cu).ent last = (⟨l, a', q', none⟩, some x) ∧ q' ≤ l.length := by
  obtain ⟨hd, hl, -⟩ := drop1 h
  have hn : ¬ l.length < q + 1 := by omega
  simp only [Cu.ent, Cu.take_none, hn, if_false, h, List.take_succ_cons, List.take_zero, List.headD_cons]
  by_cases h2 : 2 < t.toNat
  · have h3 : ¬ (t.toNat : Int) < 3 := by omega
    rw [if_pos h2]
    simp [Cu.must_none, h3]
  · have h3 : (t.toNat : Int) < 3 := by omega
    rw [if_neg h2]
    simp only [Cu.must_none, h3, decide_true, if_true, Cu.take_none, hl]
    by_cases hs : r.length < keyLen (t.toNat : Int)
    · have hs' : q + 1 + r.length < q + 1 + keyLen (t.toNat : Int) := by omega
      simp only [hs, hs', if_true, Cu.must_some, Cu.take_some]
    · have hs' : ¬ q + 1 + r.length < q + 1 + keyLen (t.toNat : Int) := by omega
      simp only [hs, hs', if_false, hd, Cu.must_none]
      cases hk : isKeyB (t.toNat : Int) (r.take (keyLen (t.toNat : Int))) with
      | false => simp [Cu.must_some, Cu.take_some]
      | true =>
        simp only [Bool.true_eq_false, if_false, if_true, Cu.must_none, hc]
        cases c with
        | false => simp [Cu.must_some, Cu.take_some]
        | true =>
          simp only [Bool.true_eq_false, if_false, if_true, Cu.take_none, hl]
          have hd2 : l.drop (q + 1 + keyLen (t.toNat : Int)) = r.drop (keyLen (t.toNat : Int)) := by rw [← hd, List.drop_drop]
          by_cases hv : r.length < keyLen (t.toNat : Int) + valLen (t.toNat : Int)
          · have hv' : q + 1 + r.length < q + 1 + keyLen (t.toNat : Int) + valLen (t.toNat : Int) := by omega
            simp only [hv, hv', if_true, Cu.must_some]
          · have hv' : ¬ q + 1 + r.length < q + 1 + keyLen (t.toNat : Int) + valLen (t.toNat : Int) := by omega
            simp only [hv, hv', if_false, hd2, Cu.must_none]
            cases hvv : isValueB (t.toNat : Int) ((r.drop (keyLen (t.toNat : Int))).take (valLen (t.toNat : Int))) with
            | false => simp
            | true =>
              simp only [Bool.true_eq_false, if_false, if_true]
              exact ⟨_, rfl, by omega⟩
/-- cursor's entry is the reference's -/
theorem Cu.ent_entry (l : List UInt8) (a q : Nat) (o : Option K) (last : K) (ho : LastK o last) :
    match entryB l q o with
    | .inr f => ((⟨l, a, q, none⟩ : Cu).ent last).1.f = some f
    | .inl (x, q') => ∃ a', (⟨l, a, q, none⟩ : Cu).ent last = (⟨l, a', q', none⟩, some x) ∧ q' ≤ l.length := by
  rcases ho with ⟨rfl, rfl⟩ | rfl
  all_goals
    unfold entryB
    cases h : l.drop q with
    | nil =>
      have : l.length < q + 1 := by have := congrArg List.length h; simp at this; omega
      simp [Cu.ent, Cu.take_none, this, List.replicate, Cu.must_some]
    | cons t r => ?_
  · exact Cu.ent_chain l a q (-1, []) t r true h (first_lt _ _)
  · exact Cu.ent_chain l a q last t r _ h (cmpK_dec _ _)
/-- DecodeAll's loop is the reference's -/
theorem allLoop_entries (l : List UInt8) : ∀ (n a q : Nat) (last : K) (es : List E), q ≤ l.length → SortedE es → LastK (es.getLast?.map (·.1)) last →
    match entriesB l n q es with
    | .inr f => (allLoop n ⟨l, a, q, none⟩ last es).1.f = some f
    | .inl (q', es') => ∃ a', allLoop n ⟨l, a, q, none⟩ last es = (⟨l, a', q', none⟩, es') ∧ q' ≤ l.length ∧ SortedE es'
  | 0, a, q, last, es, h, hs, ho => ⟨a, rfl, h, hs⟩
  | n + 1, a, q, last, es, h, hs, ho => by
    have hc := Cu.ent_entry l a q _ last ho
    unfold entriesB
    cases he : entryB l q (es.getLast?.map (·.1)) with
    | inr f =>
      rw [he] at hc
      simp only at hc ⊢
      cases hx : (⟨l, a, q, none⟩ : Cu).ent last with
      | mk c' o =>
        rw [hx] at hc
        cases o with
        | none => rw [allLoop_break rfl hx]; exact hc
        | some x => rw [allLoop_step rfl hx, allLoop_fault hc]; exact hc
    | inl xq =>
      obtain ⟨x, q'⟩ := xq
      rw [he] at hc
      obtain ⟨a', hx, hle⟩ := hc
      simp only
      have hlt := (entryB_inl he).2.2.2.2.2.2
      have hall : ∀ y ∈ es, ltK y.1 x.1 = true := by
        intro y hy
        rcases List.eq_nil_or_concat es with rfl | ⟨es0, z, rfl⟩
        · cases hy
        · simp only [List.concat_eq_append] at hs hy hlt
          have hz := hlt z.1 (by simp)
          rcases List.mem_append.1 hy with hy | hy
          · exact ltK_trans ((List.pairwise_append.1 hs).2.2 y hy z (by simp)) hz
          · rw [List.mem_singleton.1 hy]; exact hz
      have hput : putS x.1 x.2 es = es ++ [x] := put_end hall
      have ih := allLoop_entries l n a' q' x.1 (es ++ [x]) hle (by rw [← hput]; exact sorted_put _ _ hs) (.inr (by simp))
      rw [allLoop_step rfl hx, hput]
      exact ih
theorem entriesB_len {s : List UInt8} : ∀ {n q q' : Nat} {es es' : List E}, entriesB s n q es = .inl (q', es') → es'.length = es.length + n
  | 0, q, q', es, es', h => by
    obtain ⟨rfl, rfl⟩ := Prod.mk.inj (Sum.inl.inj h); rfl
  | n + 1, q, q', es, es', h => by
    unfold entriesB at h
    cases he : entryB s q (es.getLast?.map (·.1)) with
    | inr f => rw [he] at h; cases h
    | inl xq =>
      obtain ⟨x, q2⟩ := xq
      rw [he] at h
      have := entriesB_len h
      simp at this
      omega
theorem entriesB_inr {s : List UInt8} : ∀ {n q : Nat} {es : List E} {k p : Nat}, q ≤ s.length → entriesB s n q es = .inr (k, p) → 1 ≤ k ∧ k ≤ 14 ∧ p ≤ s.length
  | 0, q, es, k, p, _, h => by cases h
  | n + 1, q, es, k, p, hq, h => by
    unfold entriesB at h
    cases he : entryB s q (es.getLast?.map (·.1)) with
    | inr f =>
      rw [he] at h
      cases h
      exact entryB_inr he hq
    | inl xq =>
      obtain ⟨x, q2⟩ := xq
      rw [he] at h
      exact entriesB_inr (entryB_inl he).2.1 h
/-- DecodeAll is the reference's -/
theorem decAllB_ref (l : List UInt8) : decAllB l = refDecAllB l := by
  unfold decAllB refDecAllB
  by_cases h8 : l.length < 8
  · have h8' : l.length < 0 + 8 := by omega
    simp [Cu.take_none, h8, Cu.must_some, Cu.take_some, List.replicate, allLoop, Cu.ended]
  · have h8' : ¬ l.length < 0 + 8 := by omega
    simp only [Cu.take_none, h8, if_false, List.drop_zero, Nat.zero_add, Cu.must_none]
    cases hv : isVersionB (numB (l.take 8)) with
    | false => simp [Cu.take_some, Cu.must_some, List.replicate, allLoop, Cu.ended]
    | true =>
      simp only [if_true, Bool.true_eq_false, if_false, Cu.take_none]
      by_cases h10 : l.length < 10
      · have h10' : l.length < 8 + 2 := h10
        simp [h10, List.replicate, allLoop, Cu.ended]
      · have h10' : ¬ l.length < 8 + 2 := h10
        have e0 : ((l.drop 8).take 2).getD 0 0 = l.getD 8 0 := by
          simp [List.getD_eq_getElem?_getD, List.getElem?_take, List.getElem?_drop]
        have e1 : ((l.drop 8).take 2).getD 1 0 = l.getD 9 0 := by
          simp [List.getD_eq_getElem?_getD, List.getElem?_take, List.getElem?_drop]
        simp only [h10, if_false, e0, e1]
        have hd := allLoop_entries l ((l.getD 8 0).toNat * 256 + (l.getD 9 0).toNat) 8 10 (-1, []) [] (by omega) SortedE.nil (.inl ⟨rfl, rfl⟩)
        cases hc : entriesB l ((l.getD 8 0).toNat * 256 + (l.getD 9 0).toNat) 10 [] with
        | inr f =>
          rw [hc] at hd
          simp only at hd ⊢
          generalize allLoop ((l.getD 8 0).toNat * 256 + (l.getD 9 0).toNat) ⟨l, 8, 10, none⟩ (-1, []) [] = L at hd ⊢
          simp [Cu.ended, hd]
        | inl x =>
          obtain ⟨q', es'⟩ := x
          rw [hc] at hd
          obtain ⟨a', he, hle, -⟩ := hd
          simp only [he, Cu.ended]
          by_cases hq : q' < l.length
          · simp [hq]
          · simp [hq]
/-- what is told of what DecodeAll answers -/
theorem decAllB_inl {l : List UInt8} {n : Nat} {S : List E} (h : decAllB l = .inl (n, S)) : S.length ≤ 65535 ∧ SortedE S := by
  rw [decAllB_ref] at h
  unfold refDecAllB at h
  split at h
  · cases h
  split at h
  · cases h
  split at h
  · cases h
  rename_i h1 h2 h3
  have hd := allLoop_entries l ((l.getD 8 0).toNat * 256 + (l.getD 9 0).toNat) 8 10 (-1, []) [] (by omega) SortedE.nil (.inl ⟨rfl, rfl⟩)
  cases hc : entriesB l ((l.getD 8 0).toNat * 256 + (l.getD 9 0).toNat) 10 [] with
  | inr f => rw [hc] at h; cases h
  | inl x =>
    obtain ⟨q', es'⟩ := x
    rw [hc] at hd h
    obtain ⟨-, -, -, hs⟩ := hd
    simp only at h
    split at h
    · cases h
    · obtain ⟨-, rfl⟩ := Prod.mk.inj (Sum.inl.inj h)
      have := entriesB_len hc
      have a := (l.getD 8 0).toNat_lt
      have b := (l.getD 9 0).toNat_lt
      rw [List.length_nil] at this
      have a' : (l.getD 8 0).toNat < 256 := a
      have b' : (l.getD 9 0).toNat < 256 := b
      exact ⟨by omega, hs⟩
theorem decAllB_inr {l : List UInt8} {k p : Nat} (h : decAllB l = .inr (k, p)) : 1 ≤ k ∧ k ≤ 14 ∧ p ≤ l.length := by
  rw [decAllB_ref] at h
  unfold refDecAllB at h
  split at h
  · cases h; omega
  split at h
  · cases h; omega
  split at h
  · cases h; omega
  rename_i h1 h2 h3
  cases hc : entriesB l ((l.getD 8 0).toNat * 256 + (l.getD 9 0).toNat) 10 [] with
  | inr f =>
    rw [hc] at h
    cases h
    exact entriesB_inr (by omega) hc
  | inl x =>
    obtain ⟨q', es'⟩ := x
    rw [hc] at h
    simp only at h
    split at h
    · cases h; omega
    · cases h
end Go.Proofs.YtkkfmkhbdoeglaaGreatDoor
