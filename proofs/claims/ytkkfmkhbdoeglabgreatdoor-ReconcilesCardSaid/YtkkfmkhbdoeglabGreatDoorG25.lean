/- A part of what is proved here: lemmas and contracts of single functions. No condition but those that each names. -/
import Derived.Deep.DeepCutAuto
import Derived.Deep.RegionLaw
import Derived.Test.YtkkfmkhbdoeglabGreatDoorG08
import Derived.Test.YtkkfmkhbdoeglabGreatDoorG21
namespace Go.Proofs.YtkkfmkhbdoeglabGreatDoor
open Go.RowKit
theorem CurAt.fault {w : World} {base c : Nat} {cu : Cu} {k p : Nat} (h : CurAt w base c cu) (hf : cu.f = some (k, p)) : ∃ g, w.cell? ⟨c, 3, none⟩ = some (.pointer (some ⟨g, 0, none⟩)) ∧ base ≤ g ∧ w.heap[g]? = some (.cells #[.int .i64 k, .int .i64 p, .nilIface] 186 (0, 0)) := by
  obtain ⟨h1, h2, h3, h4, v, fp, h5, h6, h7, h8⟩ := h
  rw [hf] at h8
  obtain ⟨g, rfl, hg, hx⟩ := h8
  exact ⟨g, cell_of_row w c 3 _ _ _ h5, hg, hx⟩
theorem OwnS.noFault {w : World} {base : Nat} {v : Value} {n : Nat} {xs : List Value} (h : OwnS w base 4 v n xs) (hn : 0 < n) : ∀ g, v.ownBlock = some g → ∀ k m : Int, w.heap[g]? ≠ some (.cells #[.int .i64 k, .int .i64 m, .nilIface] 186 (0, 0)) := by
  intro g hg k m e
  obtain ⟨_, ⟨rfl, _⟩ | ⟨g', off, cap, rfl, _, _, hc, _, _, hf⟩⟩ := h
  · cases hg
  · cases hg
    have := (hf 3 (by omega)).1
    unfold World.cell? at this
    rw [e] at this
    simp at this
/-- what holds at Decode's loop -/
def DecRel (w5 : World) (base c r D n V : Nat) (C : Cu) (i : Value) (wr : World) : Prop :=
  ∃ (k : Nat) (cu : Cu) (ks : List K) (os : List OpB) (sv : Value), k ≤ n ∧ i = .int .i64 k ∧ decLoop n C [] [] = decLoop (n - k) cu ks os ∧ os.length = k ∧ (k = 0 → sv = .slice none 0 0) ∧ CurAt wr base c cu ∧
    (cu.f = none → SeenAt wr r ks) ∧ wr.heap[D]? = some (.cells #[.int .u64 V, sv] 51 (0, 0)) ∧ OwnS wr (r + 1) 4 sv os.length (opCells os) ∧ Ext (fun i => i = c ∨ i = r ∨ i = D) w5 wr
theorem DecRel.step {w5 wr w6 w7 : World} {base c r D n V k : Nat} {C cu' : Cu} {ks : List K} {os : List OpB} {o : OpB} {sa sa7 : Option Addr} {scap cap7 : Nat} {X : Obj}
    (hdn : decLoop n C [] [] = decLoop (n - (k + 1)) cu' (ks ++ [(o.table, o.key)]) (os ++ [o])) (hk : k + 1 ≤ n) (hol : os.length = k) (hnil : k = 0 → Value.slice sa os.length scap = .slice none 0 0)
    (hcu6 : CurAt w6 base c cu') (hse6 : cu'.f = none → SeenAt w6 r (ks ++ [(o.table, o.key)])) (D6 : w6.heap[D]? = some (.cells #[.int .u64 V, .slice sa os.length scap] 51 (0, 0)))
    (hown6 : OwnS w6 (r + 1) 4 (.slice sa os.length scap) os.length (opCells os)) (hown7 : OwnS w7 (r + 1) 4 (.slice sa7 (os.length + 1) cap7) (os.length + 1) (opCells (os ++ [o])))
    (hg7 : (w6.alloc X).grownBy w7 (Value.slice sa os.length scap).ownBlock) (hx : Ext (fun i => i = c ∨ i = r ∨ i = D) w5 wr) (hx6 : Ext (fun i => i = c ∨ i = r) wr.drew w6)
    (hcD : c < D) (hDr : D < r) (_hr : r < wr.heap.size) (hs5 : w5.heap.size = r + 1) :
    DecRel w5 base c r D n V C (.int .i64 ((k + 1 : Nat) : Int)) (w7.setCell ⟨D, 1, none⟩ (.slice sa7 (os.length + 1) cap7)) := by
  have hs6 : wr.heap.size ≤ w6.heap.size := hx6.size
  have hs7 : w6.heap.size ≤ w7.heap.size := Nat.le_trans (by simp) hg7.size
  have hgD : w7.grownBy (w7.setCell ⟨D, 1, none⟩ (.slice sa7 (os.length + 1) cap7)) (some D) := grownBy_set (Below.refl _ w7) 1 _
  have hge : ∀ b, (Value.slice sa os.length scap).ownBlock = some b → r + 1 ≤ b := hown6.ownBlock_ge
  have hD7 : w7.heap[D]? = some (.cells #[.int .u64 V, .slice sa os.length scap] 51 (0, 0)) :=
    (hg7.block D (by simp; have := block_lt D6; omega) (fun e => by have := hge D e.symm; omega)).trans (heap_old w6 X D6)
  have hcu7 : CurAt w7 base c cu' := by
    have ha := hcu6.old ((Below.refl _ w6).alloc (Nat.le_refl _) X)
    cases hob : (Value.slice sa os.length scap).ownBlock with
    | none =>
      rw [hob] at hg7
      exact ha.old ⟨hg7.os, hg7.tape, hg7.output, hg7.size, fun j hj => hg7.block j hj (by simp)⟩
    | some b =>
      rw [hob] at hg7
      have hb := hge b hob
      have hpos : 0 < os.length := by
        by_cases h0 : k = 0
        · rw [hnil h0] at hob; cases hob
        · omega
      refine ha.grown hg7 (by omega) (fun k' m' e => ?_)
      have hlt := hown6.ownBlock_lt b hob
      rw [heap_alloc_old w6 X hlt] at e
      exact hown6.noFault hpos b hob k' m' e
  refine ⟨k + 1, cu', ks ++ [(o.table, o.key)], os ++ [o], .slice sa7 (os.length + 1) cap7, hk, rfl, hdn, by simp [hol], fun h => absurd h (by omega), ?_, fun hf => ?_, ?_, ?_, ?_⟩
  · exact hcu7.grown hgD hcD (fun k' m' e => by rw [hD7] at e; simp at e)
  · have h1 := hse6 hf
    refine MapAt.old h1 ?_
    have hl := h1.lt
    exact (hgD.block r (by omega) (fun e => by cases e; omega)).trans ((hg7.block r (by simp; omega) (fun e => by have := hge r e.symm; omega)).trans (heap_alloc_old w6 X hl))
  · exact heap_setCell w7 D 1 _ hD7
  · have e : (os ++ [o]).length = os.length + 1 := by simp
    rw [e]
    exact hown7.frame (by rw [size_setCell]; exact Nat.le_refl _) (fun b hb hlt => hgD.block b hlt (fun e => by cases e; have := hown7.ownBlock_ge _ hb; omega))
  · have x1 : Ext (fun i => i = c ∨ i = r ∨ i = D) w5 w6 := hx.trans' (T := fun i => i = c ∨ i = r) ⟨hx6.os, hx6.tape, hx6.output, hx6.size, hx6.block⟩ (fun i e => .inl (by rcases e with e | e; exact .inl e; exact .inr (.inl e)))
    have x2 := x1.alloc X
    have x3 : Ext (fun i => i = c ∨ i = r ∨ i = D) w5 w7 := by
      cases hob : (Value.slice sa os.length scap).ownBlock with
      | none =>
        rw [hob] at hg7
        exact x2.past ⟨hg7.os, hg7.tape, hg7.output, hg7.size, fun j hj => hg7.block j hj (by simp)⟩
      | some b =>
        rw [hob] at hg7
        exact x2.grow hg7 (.inr (by have := hge b hob; omega))
    exact x3.grow hgD (.inl (.inr (.inr rfl)))
end Go.Proofs.YtkkfmkhbdoeglabGreatDoor
