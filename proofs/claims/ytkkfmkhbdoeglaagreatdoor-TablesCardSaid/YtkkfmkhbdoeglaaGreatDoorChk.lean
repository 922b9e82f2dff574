/- The contract of package overlay's checked: what is wrong with a delta. No condition. -/
import Derived.Test.YtkkfmkhbdoeglaaGreatDoorDeltaA
namespace Go.Proofs.YtkkfmkhbdoeglaaGreatDoor
open Go.RowKit

/-- changes as cells -/
def opCells (os : List OpB) : List Value := os.flatMap fun o => [.int .i64 o.kind, .int .i64 o.table, .string ⟨o.key.toArray⟩, .string ⟨o.val.toArray⟩]
theorem opCells_length (os : List OpB) : (opCells os).length = os.length * 4 := by
  induction os with
  | nil => rfl
  | cons o os ih => simp only [opCells, List.flatMap_cons, List.length_append, List.length_cons, List.length_nil] at ih ⊢; omega
theorem opCells_append (os us : List OpB) : opCells (os ++ us) = opCells os ++ opCells us := by simp [opCells]
theorem opCells_at : ∀ (os : List OpB) (k : Nat) (h : k < os.length),
    (opCells os)[k * 4]? = some (.int .i64 os[k].kind) ∧ (opCells os)[k * 4 + 1]? = some (.int .i64 os[k].table) ∧ (opCells os)[k * 4 + 2]? = some (.string ⟨os[k].key.toArray⟩) ∧ (opCells os)[k * 4 + 3]? = some (.string ⟨os[k].val.toArray⟩)
  | o :: os, 0, h => ⟨rfl, rfl, rfl, rfl⟩
  | o :: os, k + 1, h => by
    have ih := opCells_at os k (by simpa using h)
    have e : ∀ j, (k + 1) * 4 + j = 4 + (k * 4 + j) := fun j => by omega
    have e2 : ∀ j, (opCells (o :: os))[4 + j]? = (opCells os)[j]? := fun j => by
      rw [Nat.add_comm]; rfl
    refine ⟨?_, ?_, ?_, ?_⟩
    · have := e 0; simp only [Nat.add_zero] at this; rw [this, e2]; exact ih.1
    · rw [e, e2]; exact ih.2.1
    · rw [e, e2]; exact ih.2.2.1
    · rw [e, e2]; exact ih.2.2.2
/-- a value is a slice of changes that reads as a list -/
def OpsAt (w : World) (v : Value) (os : List OpB) : Prop := SliceAt w v 4 os.length (opCells os)
theorem OpsAt.opened {w : World} {v : Value} {os : List OpB} (h : OpsAt w v os) :
    ∃ a cap, v = .slice a os.length cap ∧ os.length ≤ cap ∧ ∀ k (h : k < os.length), ∃ b off, a = some ⟨b, off, none⟩ ∧ w.cell? ⟨b, off + k * 4, none⟩ = some (.int .i64 os[k].kind) ∧ w.cell? ⟨b, off + k * 4 + 1, none⟩ = some (.int .i64 os[k].table) ∧ w.cell? ⟨b, off + k * 4 + 2, none⟩ = some (.string ⟨os[k].key.toArray⟩) ∧ w.cell? ⟨b, off + k * 4 + 3, none⟩ = some (.string ⟨os[k].val.toArray⟩) := by
  obtain ⟨_, a, cap, rfl, hc, hx⟩ := h
  refine ⟨a, cap, rfl, hc, fun k hk => ?_⟩
  have hl := opCells_length os
  obtain ⟨h0, h1, h2, h3⟩ := opCells_at os k hk
  obtain ⟨b, off, rfl, c0⟩ := hx (k * 4) (by omega)
  obtain ⟨b1, o1, e1, c1⟩ := hx (k * 4 + 1) (by omega)
  cases e1
  obtain ⟨b2, o2, e2, c2⟩ := hx (k * 4 + 2) (by omega)
  cases e2
  obtain ⟨b3, o3, e3, c3⟩ := hx (k * 4 + 3) (by omega)
  cases e3
  rw [List.getElem?_eq_getElem (by omega)] at h0 h1 h2 h3
  refine ⟨b, off, rfl, ?_, ?_, ?_, ?_⟩
  · rw [c0, h0]
  · rw [Nat.add_assoc, c1, h1]
  · rw [Nat.add_assoc, c2, h2]
  · rw [Nat.add_assoc, c3, h3]
theorem OpsAt.below {w w' : World} {v : Value} {os : List OpB} (h : OpsAt w v os) (hb : Below w.heap.size w w') : OpsAt w' v os := SliceAt.below h hb

/-- a pointer to a fault of the call's own, or nil -/
def FaultPV (w : World) (base : Nat) (v : Value) (f : Option (Nat × Nat)) : Prop := ∃ fp, v = .pointer fp ∧ FaultP w base fp f
theorem FaultPV.new {W : World} {r : Value} (w : World) (base : Nat) (k' n' : Int) (k n : Nat) (hk : k' = k) (hn : n' = n) (g : Nat) (hg : g = w.heap.size) (h : base ≤ g) (hr : r = .pointer (some ⟨g, 0, none⟩)) (hW : W = w.alloc (.cells #[.int .i64 k', .int .i64 n', .nilIface] 166)) :
    FaultPV W base r (some (k, n)) := by
  subst hk hn hr hW hg
  exact ⟨_, rfl, w.heap.size, rfl, h, heap_new _ _⟩
/-- no string in a delta is too long -/
def OpsFit (os : List OpB) : Prop := ∀ o ∈ os, o.key.length ≤ maxB ∧ o.val.length ≤ maxB

set_option maxRecDepth 100000 in
set_option maxHeartbeats 400000 in
theorem checked_few (v : Nat) (sv : Value) (os : List OpB) (w : World) (hs : OpsAt w sv os) (hbad : isVersionB v = false ∨ os.length < 1 ∨ 8 < os.length) :
    Calls Tryz.prog 98 #[.agg #[.int .u64 v, sv]] w fun e w' => (∃ r, e = .returned r ∧ FaultPV w' w.heap.size r (wrongB v os)) ∧ Below w.heap.size w w' := by
  obtain ⟨a, cap, rfl, hcap, -⟩ := hs.opened
  clear hs
  cases hv : isVersionB v with
  | false =>
    have HW : wrongB v os = some (4, 0) := by unfold wrongB; rw [if_pos hv]
    rw [HW]
    clear HW
    go_enter Tryz.func98, Tryz.ntmps98
    go_wp2_with (first
      | (go_at_call 100; refine (isVersion_any v _).mono ?_; rintro e w' ⟨rfl, rfl⟩; rw [hv])
      | (go_at_call 85; refine (fault_any _ _ _).mono ?_; rintro e w' ⟨rfl, rfl⟩))
    go_ret
    refine ⟨⟨_, rfl, FaultPV.new _ _ 4 0 4 0 rfl rfl (w.heap.size + 1) (by simp) (by omega) rfl rfl⟩, ?_⟩
    · exact ((Below.refl _ w).alloc (Nat.le_refl _) _).alloc (by simp) _
  | true =>
    have hn : os.length < 1 ∨ 8 < os.length := hbad.resolve_left (by rw [hv]; decide)
    have HW : wrongB v os = some (5, 0) := by unfold wrongB; rw [if_neg (by rw [hv]; decide), if_pos hn]
    rw [HW]
    clear HW hbad
    generalize os.length = n at *
    rcases hn with hn | hn
    · have hn' : (n : Int) < 1 := by omega
      go_enter Tryz.func98, Tryz.ntmps98
      go_wp2_with (first
        | (go_at_call 100; refine (isVersion_any v _).mono ?_; rintro e w' ⟨rfl, rfl⟩; rw [hv])
        | (go_at_call 85; refine (fault_any _ _ _).mono ?_; rintro e w' ⟨rfl, rfl⟩))
      go_ret
      refine ⟨⟨_, rfl, FaultPV.new _ _ 5 0 5 0 rfl rfl (w.heap.size + 1) (by simp) (by omega) rfl rfl⟩, ?_⟩
      · exact ((Below.refl _ w).alloc (Nat.le_refl _) _).alloc (by simp) _
    · have hn' : (8 : Int) < n := by omega
      have hn1 : ¬ (n : Int) < 1 := by omega
      go_enter Tryz.func98, Tryz.ntmps98
      go_wp2_with (first
        | (go_at_call 100; refine (isVersion_any v _).mono ?_; rintro e w' ⟨rfl, rfl⟩; rw [hv])
        | (go_at_call 85; refine (fault_any _ _ _).mono ?_; rintro e w' ⟨rfl, rfl⟩))
      go_ret
      refine ⟨⟨_, rfl, FaultPV.new _ _ 5 0 5 0 rfl rfl (w.heap.size + 1) (by simp) (by omega) rfl rfl⟩, ?_⟩
      · exact ((Below.refl _ w).alloc (Nat.le_refl _) _).alloc (by simp) _
end Go.Proofs.YtkkfmkhbdoeglaaGreatDoor
