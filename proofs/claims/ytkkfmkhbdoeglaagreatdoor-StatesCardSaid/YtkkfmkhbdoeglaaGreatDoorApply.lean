/- The contracts of NewTables and of a delta's changes on tables. No condition. -/
import Derived.Test.YtkkfmkhbdoeglaaGreatDoorTabPlain
import Derived.Test.YtkkfmkhbdoeglaaGreatDoorChk
import Derived.StillTailTactics
import Derived.BigRegion
namespace Go.Proofs.YtkkfmkhbdoeglaaGreatDoor
open Go.RowKit

theorem zeroVal : ∀ u : World, (zeroValue 180).run Tryz.prog u = .ok (strV []) u := fun u => by kernel_rfl
theorem cell_not_map {w : World} {b o r : Nat} {v : Value} {S : List E} (h : w.cell? ⟨b, o, none⟩ = some v) (ht : TabAt w r S) : b ≠ r := by
  intro e
  subst e
  obtain ⟨-, L, ⟨es, clock, hb, -⟩, -⟩ := ht
  unfold World.cell? at h
  rw [hb] at h
  cases h
theorem OpsAt.keep {w w' : World} {v : Value} {os : List OpB} {r : Nat} {S : List E} (h : OpsAt w v os) (ht : TabAt w r S) (hx : Ext (fun i => i = r) w w') : OpsAt w' v os := by
  obtain ⟨hl, a, cap, rfl, hc, hcell⟩ := h
  refine ⟨hl, a, cap, rfl, hc, fun i hi => ?_⟩
  obtain ⟨b, off, rfl, hh⟩ := hcell i hi
  exact ⟨b, off, rfl, hx.cell (cell_not_map hh ht) hh⟩
/-- a pointer to entries: the cell holds a map that reads as S -/
structure EntAt (w : World) (b off r : Nat) (S : List E) : Prop where
  cell : w.cell? ⟨b, off, none⟩ = some (.map (some r))
  tab : TabAt w r S
theorem EntAt.lt {w : World} {b off r : Nat} {S : List E} (h : EntAt w b off r S) : b < w.heap.size := cell_lt h.cell
theorem EntAt.ne {w : World} {b off r : Nat} {S : List E} (h : EntAt w b off r S) : b ≠ r := cell_not_map h.cell h.tab
theorem EntAt.below {w w' : World} {b off r : Nat} {S : List E} (h : EntAt w b off r S) (hb : Below w.heap.size w w') : EntAt w' b off r S :=
  ⟨(hb.cell (p := ⟨b, off, none⟩) h.lt).trans h.cell, h.tab.old (hb.block r h.tab.lt)⟩
theorem EntAt.step {w w' : World} {b off r : Nat} {S T : List E} (h : EntAt w b off r S) (hx : Ext (fun i => i = r) w w') (ht : TabAt w' r T) : EntAt w' b off r T := ⟨hx.cell h.ne h.cell, ht⟩
theorem newTables_any (w : World) :
    Calls Tryz.prog 54 #[] w fun e w' => e = .returned (.pointer (some ⟨w.heap.size + 1, 0, none⟩)) ∧ EntAt w' (w.heap.size + 1) 0 w.heap.size [] ∧ Below w.heap.size w w' ∧ w'.heap.size = w.heap.size + 2 := by
  have hmm := @run_makeMap Tryz.prog
  go_enter Tryz.func54, Tryz.ntmps54
  go_wp2
  go_ret
  have hb : Below (w.alloc (.map #[] 0)).heap.size (w.alloc (.map #[] 0)) ((w.alloc (.map #[] 0)).alloc (.cells #[.map (some w.heap.size)] 132)) := (Below.refl _ _).alloc (Nat.le_refl _) _
  have hc := cell_new (w.alloc (.map #[] 0)) #[.map (some w.heap.size)] 132 (0, 0) 0
  rw [World.size_alloc] at hc
  exact ⟨rfl, ⟨hc, (TabAt.new w).old (hb.block _ (by simp))⟩, ((Below.refl _ w).alloc (Nat.le_refl _) _).alloc (by simp) _, by simp⟩
/-- what holds at the loop over the changes -/
def ApplyRel (w : World) (r : Nat) (S : List E) (os : List OpB) (i : Value) (wr : World) : Prop :=
  ∃ k : Nat, k ≤ os.length ∧ i = .int .i64 (k : Int) ∧ TabAt wr r (foldS S (os.take k)) ∧ Ext (fun i => i = r) w wr
theorem ApplyRel.step {w wr W W1 : World} {r k : Nat} {S : List E} {os : List OpB} (hk : k < os.length) (hx : Ext (fun i => i = r) w wr) (hb : Below wr.heap.size wr W) (hg : W.grownBy W1 (some r)) (ht : TabAt W1 r (opS (foldS S (os.take k)) os[k])) :
    ApplyRel w r S os (.int .i64 ((k + 1 : Nat) : Int)) W1.drew :=
  ⟨k + 1, hk, rfl, by rw [foldS_take _ _ _ hk]; exact ht, ((hx.past hb).grow hg (.inl rfl)).drew⟩
set_option maxRecDepth 100000 in
set_option maxHeartbeats 1000000 in
theorem apply_any (b off r : Nat) (S : List E) (v : Nat) (sv : Value) (os : List OpB) (w : World) (he : EntAt w b off r S) (hs : OpsAt w sv os) (hlen : os.length ≤ 2932031007402) :
    Calls Tryz.prog 99 #[.pointer (some ⟨b, off, none⟩), .agg #[.int .u64 v, sv]] w fun e w' => e = .returned (.tuple #[]) ∧ TabAt w' r (foldS S os) ∧ Ext (fun i => i = r) w w' := by
  obtain ⟨a, cap, rfl, hcap, -⟩ := hs.opened
  have hb0 : Below w.heap.size w (w.alloc (.cells #[.int .u64 (v : Int), .slice a os.length cap] 34)) := (Below.refl _ w).alloc (Nat.le_refl _) _
  have H0 := Lib.hid (he.below hb0)
  have HS := Lib.hid (hs.below hb0)
  have hlt0 := he.lt
  have hx0 : Ext (fun i => i = r) w (w.alloc (.cells #[.int .u64 (v : Int), .slice a os.length cap] 34)) := Ext.of_new hb0
  clear hs he
  go_enter Tryz.func99, Tryz.ntmps99
  go_wp2
  generalize hw0 : w.alloc (.cells #[.int .u64 (v : Int), .slice a os.length cap] 34) = w0
  rw [hw0] at H0 HS hx0 hb0
  clear hw0
  go_loopw [9] (fun i wr => ApplyRel w0 r S os i wr) (fun i _ => os.length - (intOf i).toNat)
  case atStart => exact ⟨0, Nat.zero_le _, rfl, H0.out.tab, Ext.refl _ _⟩
  case round =>
    obtain ⟨k, hk, rfl, htab, hx⟩ := hrel
    by_cases hlt : k < os.length
    · have hlt' : (k : Int) < os.length := by omega
      have hsr := hx.size
      obtain ⟨a', cap', he, -, hcell⟩ := (HS.out.keep H0.out.tab hx).opened
      cases he
      obtain ⟨ob, oo, rfl, c0, c1, c2, c3⟩ := hcell k hlt
      have hEc := (H0.out.step hx htab).cell
      have hbl := cell_lt hEc
      have hol := cell_lt c0
      clear hcell
      have HT := Lib.hid htab
      clear htab
      obtain ⟨o, ho⟩ : ∃ o, os[k] = o := ⟨_, rfl⟩
      have HO := Lib.hid ho
      rw [ho] at c0 c1 c2 c3
      clear ho
      obtain ⟨kd, T, KB, VB⟩ := o
      have hal : Below wr.heap.size wr (wr.alloc (.cells #[.int .i64 kd, .int .i64 T, .string ⟨KB.toArray⟩, .string ⟨VB.toArray⟩] 96)) := (Below.refl _ wr).alloc (Nat.le_refl _) _
      have htA : TabAt (wr.alloc (.cells #[.int .i64 kd, .int .i64 T, .string ⟨KB.toArray⟩, .string ⟨VB.toArray⟩] 96)) r (foldS S (os.take k)) := HT.out.old (hal.block r HT.out.lt)
      by_cases hk1 : kd = 1
      · obtain ⟨W1, hu, ht1, hg1, hs1⟩ := htA.put (mt := 107) Tryz.underlying107 (T, KB) VB
        have hkt : (kd == 1) = true := by rw [beq_iff_eq]; exact hk1
        have HE : Hid (opS (foldS S (os.take k)) os[k] = putS (T, KB) VB (foldS S (os.take k))) := Lib.hid (by rw [HO.out]; exact if_pos hk1)
        have hu1 := hu 1
        have hdr : ∀ w : World, w.drewN 1 = w.drew := fun _ => rfl
        rw [hdr, hdr] at hu1
        simp only [kV, keyV, strV] at hu1
        have HT1 := Lib.hid ht1
        clear hu hdr hk1 htA ht1
        go_wp2
        go_region
        go_wp2
        refine ⟨ApplyRel.step hlt hx hal hg1 (by rw [HE.out]; exact HT1.out), ?_⟩
        simp [intOf]
        omega
      · obtain ⟨W1, hu, ht1, hg1, hs1⟩ := htA.drop (mt := 107) Tryz.underlying107 (T, KB) 94 0
        have hkt : (kd == 1) = false := by rw [beq_eq_false_iff_ne]; exact hk1
        have HE : Hid (opS (foldS S (os.take k)) os[k] = dropS (T, KB) (foldS S (os.take k))) := Lib.hid (by rw [HO.out]; exact if_neg hk1)
        have hu1 := hu 1
        have hdr : ∀ w : World, w.drewN 1 = w.drew := fun _ => rfl
        rw [hdr, hdr] at hu1
        simp only [kV, keyV] at hu1
        have HT1 := Lib.hid ht1
        clear hu hdr hk1 htA ht1
        go_wp2
        go_region
        go_wp2
        refine ⟨ApplyRel.step hlt hx hal hg1 (by rw [HE.out]; exact HT1.out), ?_⟩
        simp [intOf]
        omega
    · obtain rfl : k = os.length := by omega
      have hge : ¬ (os.length : Int) < os.length := by omega
      rw [List.take_length] at htab
      have HT := Lib.hid htab
      clear htab
      go_wp2
      go_end0
      exact ⟨rfl, HT.out, hx0.trans hx⟩
end Go.Proofs.YtkkfmkhbdoeglaaGreatDoor
