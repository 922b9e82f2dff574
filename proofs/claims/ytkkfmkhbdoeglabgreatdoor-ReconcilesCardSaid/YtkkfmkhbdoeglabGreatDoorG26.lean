/- A part of what is proved here: lemmas and contracts of single functions. No condition but those that each names. -/
import Derived.Deep.CutBlock
import Derived.Test.YtkkfmkhbdoeglabGreatDoorG03
import Derived.Test.YtkkfmkhbdoeglabGreatDoorG12
import Derived.Test.YtkkfmkhbdoeglabGreatDoorG13
import Derived.Test.YtkkfmkhbdoeglabGreatDoorG24
import Derived.Test.YtkkfmkhbdoeglabGreatDoorG25
namespace Go.Proofs.YtkkfmkhbdoeglabGreatDoor
open Go.RowKit
/-- DecodeAll's round: the cursor, and the entry (none: the loop is left) -/
def Cu.ent (c : Cu) (last : K) : Cu × Option E :=
  let a := c.take 1
  let T : Int := ((a.2.headD 0).toNat : Int)
  let c1 := a.1.must (decide (T < 3)) 6
  match c1.f with
  | some _ => (c1, none)
  | none =>
    let b := c1.take (keyLen T)
    let c2 := (b.1.must (isKeyB T b.2) 7).must (decide (cmpK last (T, b.2) < 0)) 14
    let d := c2.take (valLen T)
    (d.1.must (isValueB T d.2) 9, some ((T, b.2), d.2))
def allLoop : Nat → Cu → K → List E → Cu × List E
  | 0, c, _, S => (c, S)
  | n + 1, c, last, S =>
    match c.f with
    | some _ => (c, S)
    | none =>
      match c.ent last with
      | (c', none) => (c', S)
      | (c', some x) => allLoop n c' x.1 (putS x.1 x.2 S)
/-- the state that bytes are, or a fault and where -/
def decAllB (l : List UInt8) : (Nat × List E) ⊕ (Nat × Nat) :=
  let a := Cu.take ⟨l, 0, 0, none⟩ 8
  let b := (a.1.must (isVersionB (numB a.2)) 4).take 2
  let L := allLoop ((b.2.getD 0 0).toNat * 256 + (b.2.getD 1 0).toNat) b.1 (-1, []) []
  match L.1.ended.f with
  | some f => .inr f
  | none => .inl (numB a.2, L.2)
/-- what holds between two steps of DecodeAll's loop -/
structure AllSt (w5 : World) (base c r Bl : Nat) (cu : Cu) (last : K) (S : List E) (W : World) : Prop where
  cur : CurAt W base c cu
  tab : TabAt W r S
  cell : W.cell? ⟨r + 1, 0, none⟩ = some (.map (some r))
  box : W.heap[Bl]? = some (.cells #[.int .i64 last.1, .string ⟨last.2.toArray⟩] 103 (0, 0))
  shp : ShapesVar W
  ext : Ext (fun i => i = c ∨ i = r ∨ i = Bl) w5 W
  geo : 2 ≤ base ∧ base ≤ c ∧ c < r ∧ r + 1 < Bl ∧ Bl < w5.heap.size
section
variable {w5 W W' : World} {base c r Bl : Nat} {cu cu' : Cu} {last : K} {S S' : List E}
theorem AllSt.size (h : AllSt w5 base c r Bl cu last S W) : w5.heap.size ≤ W.heap.size := h.ext.size
theorem AllSt.put (h : AllSt w5 base c r Bl cu last S W) (hg : W.grownBy W' (some r)) (ht : TabAt W' r S') : AllSt w5 base c r Bl cu last S' W' := by
  obtain ⟨g1, g2, g3, g4, g5⟩ := h.geo
  have hs := h.size
  refine ⟨h.cur.grown hg g3 ?_, ht, (World.cell?_of_block (a := ⟨r + 1, 0, none⟩) (hg.block (r + 1) (by omega) (fun e => by simp at e))).trans h.cell,
    (hg.block Bl (by omega) (fun e => by cases e; omega)).trans h.box, h.shp.grown hg (by omega), h.ext.grow hg (.inl (.inr (.inl rfl))), h.geo⟩
  obtain ⟨-, L, hm, -⟩ := h.tab
  exact hm.noFault
theorem AllSt.step (h : AllSt w5 base c r Bl cu last S W) (k : K) : AllSt w5 base c r Bl cu k S ((W.setCell ⟨Bl, 0, none⟩ (.int .i64 k.1)).setCell ⟨Bl, 1, none⟩ (.string ⟨k.2.toArray⟩)) := by
  obtain ⟨g1, g2, g3, g4, g5⟩ := h.geo
  have hs := h.size
  have hg : W.grownBy ((W.setCell ⟨Bl, 0, none⟩ (.int .i64 k.1)).setCell ⟨Bl, 1, none⟩ (.string ⟨k.2.toArray⟩)) (some Bl) := grownBy_set2 (grownBy_set (Below.refl _ W) 0 _) 1 _
  exact ⟨h.cur.grown hg (by omega) (fun k' m e => by rw [h.box] at e; simp at e), h.tab.old (hg.block r h.tab.lt (fun e => by cases e; omega)), (World.cell?_of_block (a := ⟨r + 1, 0, none⟩) (hg.block (r + 1) (by omega) (fun e => by cases e; omega))).trans h.cell,
    heap_setCell _ _ 1 _ (heap_setCell _ _ 0 _ h.box), h.shp.grown hg (by omega), h.ext.grow hg (.inl (.inr (.inr rfl))), h.geo⟩
/-- the round's own box -/
theorem AllSt.boxes (h : AllSt w5 base c r Bl cu last S W) {B : Nat} {o : Obj} (hB : W.heap[B]? = some o) (hc : c < B) (hg : W.grownBy W' (some c)) : W'.heap[B]? = some o :=
  (hg.block B (block_lt hB) (fun e => by cases e; omega)).trans hB
end
end Go.Proofs.YtkkfmkhbdoeglabGreatDoor
namespace Go.Proofs.YtkkfmkhbdoeglabGreatDoor
open Go.RowKit
end Go.Proofs.YtkkfmkhbdoeglabGreatDoor
namespace Go.Proofs.YtkkfmkhbdoeglabGreatDoor
open Go.RowKit
end Go.Proofs.YtkkfmkhbdoeglabGreatDoor
namespace Go.Proofs.YtkkfmkhbdoeglabGreatDoor
open Go.RowKit
/-- entries that deltas that may be have laid -/
def EntGood (x : E) : Prop := 0 ≤ x.1.1 ∧ x.1.1 < 3 ∧ isKeyB x.1.1 x.1.2 = true ∧ isValueB x.1.1 x.2 = true
theorem mem_foldP : ∀ (os : List OpB) (S : List E) (x : E), x ∈ foldS S os → x ∈ S ∨ ∃ o ∈ os, o.kind = 1 ∧ x = (keyO o, o.val)
  | [], _, _, h => .inl h
  | o :: os, S, x, h => by
    rcases mem_foldP os (opS S o) x h with h | ⟨u, hu, e⟩
    · rcases (mem_op S o x).1 h with ⟨e1, e⟩ | ⟨h, -⟩
      · exact .inr ⟨o, by simp, e1, e⟩
      · exact .inl h
    · exact .inr ⟨u, by simp [hu], e⟩
theorem wrong_ops {v : Nat} {os : List OpB} (h : wrongB v os = none) : os.length ≤ 8 ∧ ∀ o ∈ os, (o.kind = 1 ∨ o.kind = 2) ∧ 0 ≤ o.table ∧ o.table < 3 ∧ isKeyB o.table o.key = true ∧ valOk o = true := by
  have hv : os.length ≤ 8 ∧ wrongFrom 0 [] os = none := by
    unfold wrongB at h
    split at h
    · cases h
    · split at h
      · cases h
      · exact ⟨by omega, h⟩
  refine ⟨hv.1, fun o ho => ?_⟩
  obtain ⟨k, hk, rfl⟩ := List.getElem_of_mem ho
  obtain ⟨ks, hks⟩ := wrongFrom_none_at os 0 [] hv.2 k hk
  obtain ⟨h1, h2, h3, h4, -, h6⟩ := opWrong_zero hks
  exact ⟨h1, h2, h3, h4, h6⟩
/-- so many entries, and such -/
structure TabGood (m : Nat) (S : List E) : Prop where
  len : S.length ≤ m
  sorted : SortedE S
  good : ∀ x ∈ S, EntGood x
theorem TabGood.nil (m : Nat) : TabGood m [] := ⟨Nat.zero_le _, SortedE.nil, fun _ h => by cases h⟩
theorem TabGood.fold {m : Nat} {S : List E} {v : Nat} {os : List OpB} (h : TabGood m S) (hw : wrongB v os = none) : TabGood (m + 8) (foldS S os) := by
  obtain ⟨h8, ho⟩ := wrong_ops hw
  refine ⟨?_, sorted_fold os h.sorted, fun x hx => ?_⟩
  · have := length_fold os h.sorted
    have := h.len
    omega
  · rcases mem_foldP os S x hx with hx | ⟨o, hm, hk, rfl⟩
    · exact h.good x hx
    · obtain ⟨-, h2, h3, h4, h6⟩ := ho o hm
      unfold valOk at h6
      rw [if_neg (by omega)] at h6
      exact ⟨h2, h3, h4, h6⟩
theorem TabGood.mono {m m' : Nat} {S : List E} (h : TabGood m S) (hm : m ≤ m') : TabGood m' S := ⟨Nat.le_trans h.len hm, h.sorted, h.good⟩
theorem TabGood.apply {m : Nat} {S : List E} (h : TabGood m S) (v : Nat) (os : List OpB) : TabGood (m + 8) (applyS v S os) := by
  unfold applyS
  cases hw : wrongB v os with
  | none => exact h.fold hw
  | some f => exact h.mono (by omega)
theorem laid_good (l : List E) : TabGood (8 * l.length) (laidS l) := by
  have key : ∀ (l : List E) (S : List E) (m : Nat), TabGood m S → TabGood (m + 8 * l.length) (l.foldl (fun S x => applyS 1 S [putOp x]) S) := by
    intro l
    induction l with
    | nil => intro S m h; exact h
    | cons x l ih =>
      intro S m h
      have := ih _ _ (h.apply 1 [putOp x])
      rw [List.foldl_cons]
      exact this.mono (by rw [List.length_cons]; omega)
  have := key l [] 0 (TabGood.nil 0)
  exact this.mono (by omega)
end Go.Proofs.YtkkfmkhbdoeglabGreatDoor
namespace Go.Proofs.YtkkfmkhbdoeglabGreatDoor
open Go.RowKit
end Go.Proofs.YtkkfmkhbdoeglabGreatDoor
namespace Go.Proofs.YtkkfmkhbdoeglabGreatDoor
theorem be4_be32 (n : Nat) (hn : n < 4294967296) : ∃ a b c d, be4 n = [a, b, c, d] ∧ be32 a b c d = n := by
  refine ⟨_, _, _, _, rfl, ?_⟩
  exact ((be4_eq n hn _ _ _ _).1 rfl).symm
end Go.Proofs.YtkkfmkhbdoeglabGreatDoor
