/- A part of what is proved here: lemmas and contracts of single functions. No condition but those that each names. -/
import Derived.BigQuiet
import Derived.BigRegion
import Derived.Deep.QuietTactic
import Derived.Deep.RegionWith
import Derived.LoopIn
import Derived.LoopNIn
import Derived.Maps.AppendAt
import Derived.OwnWalkIn
import Derived.RangeFuncBound
import Derived.RangeFuncBox
import Derived.RangeFuncCalls
import Derived.RangeFuncGives
import Derived.RangeFuncLeaves
import Derived.RangeFuncMany
import Derived.RangeFuncNested
import Derived.Shelf.Abstract
import Derived.Shelf.RegionOpen
import Derived.Shelf.SlSortCmp.NoneTotal
import Derived.StillTailTactics
import Derived.TacticsInMore
import Derived.WalkKit
import Derived.WalkLawsBesides
import Derived.Test.YtkkfmkhbdoeglabGreatDoorG02
import Derived.Test.YtkkfmkhbdoeglabGreatDoorG09
import Derived.Test.YtkkfmkhbdoeglabGreatDoorG12
namespace Go.Proofs.YtkkfmkhbdoeglabGreatDoor
open Go.RowKit
theorem zeroVal : ∀ u : World, (zeroValue 226).run Tryz.prog u = .ok (strV []) u := fun u => by kernel_rfl
theorem cell_not_map {w : World} {b o r : Nat} {v : Value} {S : List E} (h : w.cell? ⟨b, o, none⟩ = some v) (ht : TabAt w r S) : b ≠ r := by
  intro e
  subst e
  obtain ⟨-, L, ⟨es, clock, hb, -⟩, -⟩ := ht
  unfold World.cell? at h
  rw [hb] at h
  cases h
theorem OpsAt.keep {w w' : World} {v : Value} {os : List OpB} {r : Nat} {S : List E} (h : OpsAt w v os) (ht : TabAt w r S) (hx : Ext (fun i => i = r) w w') : OpsAt w' v os := by
  obtain ⟨hl, a, cap, rfl, hc, hcell⟩ := h
  refine ⟨hl, a, cap, rfl, hc, fun i hi => ?_⟩
  obtain ⟨b, off, rfl, hh⟩ := hcell i hi
  exact ⟨b, off, rfl, hx.cell (cell_not_map hh ht) hh⟩
/-- a pointer to entries: the cell holds a map that reads as S -/
structure EntAt (w : World) (b off r : Nat) (S : List E) : Prop where
  cell : w.cell? ⟨b, off, none⟩ = some (.map (some r))
  tab : TabAt w r S
theorem EntAt.lt {w : World} {b off r : Nat} {S : List E} (h : EntAt w b off r S) : b < w.heap.size := cell_lt h.cell
theorem EntAt.ne {w : World} {b off r : Nat} {S : List E} (h : EntAt w b off r S) : b ≠ r := cell_not_map h.cell h.tab
theorem EntAt.below {w w' : World} {b off r : Nat} {S : List E} (h : EntAt w b off r S) (hb : Below w.heap.size w w') : EntAt w' b off r S :=
  ⟨(hb.cell (p := ⟨b, off, none⟩) h.lt).trans h.cell, h.tab.old (hb.block r h.tab.lt)⟩
theorem EntAt.step {w w' : World} {b off r : Nat} {S T : List E} (h : EntAt w b off r S) (hx : Ext (fun i => i = r) w w') (ht : TabAt w' r T) : EntAt w' b off r T := ⟨hx.cell h.ne h.cell, ht⟩
theorem newTables_any (w : World) :
    Calls Tryz.prog 92 #[] w fun e w' => e = .returned (.pointer (some ⟨w.heap.size + 1, 0, none⟩)) ∧ EntAt w' (w.heap.size + 1) 0 w.heap.size [] ∧ Below w.heap.size w w' ∧ w'.heap.size = w.heap.size + 2 := by
  have hmm := @run_makeMap Tryz.prog
  go_enter Tryz.func92, Tryz.ntmps92
  go_wp2
  go_ret
  have hb : Below (w.alloc (.map #[] 0)).heap.size (w.alloc (.map #[] 0)) ((w.alloc (.map #[] 0)).alloc (.cells #[.map (some w.heap.size)] 166)) := (Below.refl _ _).alloc (Nat.le_refl _) _
  have hc := cell_new (w.alloc (.map #[] 0)) #[.map (some w.heap.size)] 166 (0, 0) 0
  rw [World.size_alloc] at hc
  exact ⟨rfl, ⟨hc, (TabAt.new w).old (hb.block _ (by simp))⟩, ((Below.refl _ w).alloc (Nat.le_refl _) _).alloc (by simp) _, by simp⟩
/-- what holds at the loop over the changes -/
def ApplyRel (w : World) (r : Nat) (S : List E) (os : List OpB) (i : Value) (wr : World) : Prop :=
  ∃ k : Nat, k ≤ os.length ∧ i = .int .i64 (k : Int) ∧ TabAt wr r (foldS S (os.take k)) ∧ Ext (fun i => i = r) w wr
theorem ApplyRel.step {w wr W W1 : World} {r k : Nat} {S : List E} {os : List OpB} (hk : k < os.length) (hx : Ext (fun i => i = r) w wr) (hb : Below wr.heap.size wr W) (hg : W.grownBy W1 (some r)) (ht : TabAt W1 r (opS (foldS S (os.take k)) os[k])) :
    ApplyRel w r S os (.int .i64 ((k + 1 : Nat) : Int)) W1.drew :=
  ⟨k + 1, hk, rfl, by rw [foldS_take _ _ _ hk]; exact ht, ((hx.past hb).grow hg (.inl rfl)).drew⟩
set_option maxRecDepth 100000 in
set_option maxHeartbeats 1000000 in
theorem apply_any (b off r : Nat) (S : List E) (v : Nat) (sv : Value) (os : List OpB) (w : World) (he : EntAt w b off r S) (hs : OpsAt w sv os) (hlen : os.length ≤ 2932031007402) :
    Calls Tryz.prog 132 #[.pointer (some ⟨b, off, none⟩), .agg #[.int .u64 v, sv]] w fun e w' => e = .returned (.tuple #[]) ∧ TabAt w' r (foldS S os) ∧ Ext (fun i => i = r) w w' := by
  obtain ⟨a, cap, rfl, hcap, -⟩ := hs.opened
  have hb0 : Below w.heap.size w (w.alloc (.cells #[.int .u64 (v : Int), .slice a os.length cap] 51)) := (Below.refl _ w).alloc (Nat.le_refl _) _
  have H0 := Lib.hid (he.below hb0)
  have HS := Lib.hid (hs.below hb0)
  have hlt0 := he.lt
  have hx0 : Ext (fun i => i = r) w (w.alloc (.cells #[.int .u64 (v : Int), .slice a os.length cap] 51)) := Ext.of_new hb0
  clear hs he
  go_enter Tryz.func132, Tryz.ntmps132
  go_wp2
  generalize hw0 : w.alloc (.cells #[.int .u64 (v : Int), .slice a os.length cap] 51) = w0
  rw [hw0] at H0 HS hx0 hb0
  clear hw0
  go_loopw [9] (fun i wr => ApplyRel w0 r S os i wr) (fun i _ => os.length - (intOf i).toNat)
  case atStart => exact ⟨0, Nat.zero_le _, rfl, H0.out.tab, Ext.refl _ _⟩
  case round =>
    obtain ⟨k, hk, rfl, htab, hx⟩ := hrel
    by_cases hlt : k < os.length
    · have hlt' : (k : Int) < os.length := by omega
      have hsr := hx.size
      obtain ⟨a', cap', he, -, hcell⟩ := (HS.out.keep H0.out.tab hx).opened
      cases he
      obtain ⟨ob, oo, rfl, c0, c1, c2, c3⟩ := hcell k hlt
      have hEc := (H0.out.step hx htab).cell
      have hbl := cell_lt hEc
      have hol := cell_lt c0
      clear hcell
      have HT := Lib.hid htab
      clear htab
      obtain ⟨o, ho⟩ : ∃ o, os[k] = o := ⟨_, rfl⟩
      have HO := Lib.hid ho
      rw [ho] at c0 c1 c2 c3
      clear ho
      obtain ⟨kd, T, KB, VB⟩ := o
      have hal : Below wr.heap.size wr (wr.alloc (.cells #[.int .i64 kd, .int .i64 T, .string ⟨KB.toArray⟩, .string ⟨VB.toArray⟩] 105)) := (Below.refl _ wr).alloc (Nat.le_refl _) _
      have htA : TabAt (wr.alloc (.cells #[.int .i64 kd, .int .i64 T, .string ⟨KB.toArray⟩, .string ⟨VB.toArray⟩] 105)) r (foldS S (os.take k)) := HT.out.old (hal.block r HT.out.lt)
      by_cases hk1 : kd = 1
      · obtain ⟨W1, hu, ht1, hg1, hs1⟩ := htA.put (mt := 162) Tryz.underlying162 (T, KB) VB
        have hkt : (kd == 1) = true := by rw [beq_iff_eq]; exact hk1
        have HE : Hid (opS (foldS S (os.take k)) os[k] = putS (T, KB) VB (foldS S (os.take k))) := Lib.hid (by rw [HO.out]; exact if_pos hk1)
        have hu1 := hu 1
        have hdr : ∀ w : World, w.drewN 1 = w.drew := fun _ => rfl
        rw [hdr, hdr] at hu1
        simp only [kV, keyV, strV] at hu1
        have HT1 := Lib.hid ht1
        clear hu hdr hk1 htA ht1
        go_wp2
        go_region
        go_wp2
        refine ⟨ApplyRel.step hlt hx hal hg1 (by rw [HE.out]; exact HT1.out), ?_⟩
        simp [intOf]
        omega
      · obtain ⟨W1, hu, ht1, hg1, hs1⟩ := htA.drop (mt := 162) Tryz.underlying162 (T, KB) 103 0
        have hkt : (kd == 1) = false := by rw [beq_eq_false_iff_ne]; exact hk1
        have HE : Hid (opS (foldS S (os.take k)) os[k] = dropS (T, KB) (foldS S (os.take k))) := Lib.hid (by rw [HO.out]; exact if_neg hk1)
        have hu1 := hu 1
        have hdr : ∀ w : World, w.drewN 1 = w.drew := fun _ => rfl
        rw [hdr, hdr] at hu1
        simp only [kV, keyV] at hu1
        have HT1 := Lib.hid ht1
        clear hu hdr hk1 htA ht1
        go_wp2
        go_region
        go_wp2
        refine ⟨ApplyRel.step hlt hx hal hg1 (by rw [HE.out]; exact HT1.out), ?_⟩
        simp [intOf]
        omega
    · obtain rfl : k = os.length := by omega
      have hge : ¬ (os.length : Int) < os.length := by omega
      rw [List.take_length] at htab
      have HT := Lib.hid htab
      clear htab
      go_wp2
      go_end0
      exact ⟨rfl, HT.out, hx0.trans hx⟩
end Go.Proofs.YtkkfmkhbdoeglabGreatDoor
namespace Go.Proofs.YtkkfmkhbdoeglabGreatDoor
open Go.RowKit
theorem isNaNInt (x : Int) (w : World) : Calls Tryz.prog 203 #[.int .i64 x] w fun e w' => e = .returned (.bool false) ∧ w = w' := by
  have h : (x != x) = false := by simp
  go_enter Tryz.func203, Tryz.ntmps203
  go_wp2
  go_ret
  exact ⟨rfl, rfl⟩
theorem isNaNStr (x : List UInt8) (w : World) : Calls Tryz.prog 204 #[.string ⟨x.toArray⟩] w fun e w' => e = .returned (.bool false) ∧ w = w' := by
  have h : (x == x) = true := by simp
  go_enter Tryz.func204, Tryz.ntmps204
  go_wp2
  go_ret
  exact ⟨rfl, rfl⟩
def cmpI (a b : Int) : Int := if a < b then -1 else if b < a then 1 else 0
def cmpL (a b : List UInt8) : Int := if a < b then -1 else if b < a then 1 else 0
/-- the keys' order, as a number -/
def cmpK (a b : K) : Int := if cmpI a.1 b.1 ≠ 0 then cmpI a.1 b.1 else cmpL a.2 b.2
theorem compareInt_any (a b : Int) (w : World) : Calls Tryz.prog 179 #[.int .i64 a, .int .i64 b] w fun e w' => e = .returned (.int .i64 (cmpI a b)) ∧ w = w' := by
  rcases Int.lt_trichotomy a b with h | h | h
  · have HC : Hid (cmpI a b = -1) := Lib.hid (by unfold cmpI; rw [if_pos h])
    go_enter Tryz.func179, Tryz.ntmps179
    go_wp2_with (go_at_call 203; refine (isNaNInt _ _).mono ?_; rintro e w' ⟨rfl, rfl⟩)
    go_ret
    exact ⟨by rw [HC.out]; rfl, rfl⟩
  · subst h
    have HC : Hid (cmpI a a = 0) := Lib.hid (by unfold cmpI; simp)
    go_enter Tryz.func179, Tryz.ntmps179
    go_wp2_with (go_at_call 203; refine (isNaNInt _ _).mono ?_; rintro e w' ⟨rfl, rfl⟩)
    go_ret
    exact ⟨by rw [HC.out]; rfl, rfl⟩
  · have h' : ¬ a < b := by omega
    have HC : Hid (cmpI a b = 1) := Lib.hid (by unfold cmpI; rw [if_neg h', if_pos h])
    go_enter Tryz.func179, Tryz.ntmps179
    go_wp2_with (go_at_call 203; refine (isNaNInt _ _).mono ?_; rintro e w' ⟨rfl, rfl⟩)
    go_ret
    exact ⟨by rw [HC.out]; rfl, rfl⟩
theorem lt_tri (a b : List UInt8) : a < b ∨ a = b ∨ b < a := by
  by_cases h1 : a < b
  · exact .inl h1
  · by_cases h2 : b < a
    · exact .inr (.inr h2)
    · exact .inr (.inl (List.le_antisymm (List.not_lt.1 h2) (List.not_lt.1 h1)))
theorem compareStr_any (a b : List UInt8) (w : World) : Calls Tryz.prog 180 #[.string ⟨a.toArray⟩, .string ⟨b.toArray⟩] w fun e w' => e = .returned (.int .i64 (cmpL a b)) ∧ w = w' := by
  rcases lt_tri a b with h | h | h
  · have HC : Hid (cmpL a b = -1) := Lib.hid (by unfold cmpL; rw [if_pos h])
    have hb : Op.bytesLess a b = true := by rw [bytesLess_eq]; exact decide_eq_true h
    clear h
    go_enter Tryz.func180, Tryz.ntmps180
    go_wp2_with (go_at_call 204; refine (isNaNStr _ _).mono ?_; rintro e w' ⟨rfl, rfl⟩)
    go_ret
    exact ⟨by rw [HC.out]; rfl, rfl⟩
  · subst h
    have HC : Hid (cmpL a a = 0) := Lib.hid (by unfold cmpL; simp [List.lt_irrefl])
    have hb : Op.bytesLess a a = false := by rw [bytesLess_eq]; exact decide_eq_false (List.lt_irrefl a)
    have hq : (a == a) = true := beq_self_eq_true a
    go_enter Tryz.func180, Tryz.ntmps180
    go_wp2_with (go_at_call 204; refine (isNaNStr _ _).mono ?_; rintro e w' ⟨rfl, rfl⟩)
    go_ret
    exact ⟨by rw [HC.out]; rfl, rfl⟩
  · have h1 : ¬ a < b := fun h' => List.lt_irrefl a (List.lt_trans h' h)
    have h2 : a ≠ b := fun e => List.lt_irrefl a (by rw [e] at h ⊢; exact h)
    have HC : Hid (cmpL a b = 1) := Lib.hid (by unfold cmpL; rw [if_neg h1, if_pos h])
    have hb : Op.bytesLess a b = false := by rw [bytesLess_eq]; exact decide_eq_false h1
    have hq : (a == b) = false := by rw [beq_eq_false_iff_ne]; exact h2
    clear h h1 h2
    go_enter Tryz.func180, Tryz.ntmps180
    go_wp2_with (go_at_call 204; refine (isNaNStr _ _).mono ?_; rintro e w' ⟨rfl, rfl⟩)
    go_ret
    exact ⟨by rw [HC.out]; rfl, rfl⟩
theorem order_world (w : World) (a b c : Obj) : (((w.alloc a).alloc b).alloc c).drew = Sort.grow (w.drewN 1) #[a, b, c] := by
  have h : ((w.heap.push a).push b).push c = w.heap ++ #[a, b, c] := by
    apply Array.ext'
    simp
  unfold Sort.grow World.alloc World.drew World.drewN
  simp [h]
/-- the first that is not nought -/
theorem or_any (B cap : Nat) (x y : Int) (w : World) (h0 : w.cell? ⟨B, 0, none⟩ = some (.int .i64 x)) (h1 : w.cell? ⟨B, 1, none⟩ = some (.int .i64 y)) :
    Calls Tryz.prog 178 #[.slice (some ⟨B, 0, none⟩) 2 cap] w fun e w' => e = .returned (.int .i64 (if x ≠ 0 then x else y)) ∧ w = w' := by
  obtain ⟨z, hz⟩ : ∃ z, z = if x ≠ 0 then x else y := ⟨_, rfl⟩
  rw [← hz]
  have HZ := Lib.hid hz
  clear hz
  go_enter Tryz.func178, Tryz.ntmps178
  go_wp2
  go_loop [8] (fun i => i = .int .i64 0 ∨ (i = .int .i64 1 ∧ x = 0) ∨ (i = .int .i64 2 ∧ x = 0 ∧ y = 0)) (fun i => 2 - (intOf i).toNat)
  case atStart => exact .inl rfl
  case round =>
    rcases hrel with rfl | ⟨rfl, hx⟩ | ⟨rfl, hx, hy⟩
    · by_cases hx : x = 0
      · have hb : (x != 0) = false := by simp [hx]
        have HX := Lib.hid hx
        clear hx
        go_wp2
        exact ⟨.inr (.inl ⟨rfl, HX.out⟩), by simp [intOf]⟩
      · have hb : (x != 0) = true := by simp [hx]
        have HV : Hid (z = x) := Lib.hid (by rw [HZ.out, if_pos hx])
        clear hx
        go_wp2
        go_ret
        exact ⟨by rw [HV.out]; rfl, rfl⟩
    · have HX := Lib.hid hx
      clear hx
      by_cases hy : y = 0
      · have hb : (y != 0) = false := by simp [hy]
        have HY := Lib.hid hy
        clear hy
        go_wp2
        exact ⟨.inr (.inr ⟨rfl, HX.out, HY.out⟩), by simp [intOf]⟩
      · have hb : (y != 0) = true := by simp [hy]
        have HV : Hid (z = y) := Lib.hid (by rw [HZ.out, if_neg (by rw [HX.out]; simp)])
        clear hy
        go_wp2
        go_ret
        exact ⟨by rw [HV.out]; rfl, rfl⟩
    · have HV : Hid (z = 0) := Lib.hid (by rw [HZ.out, if_neg (by rw [hx]; simp), hy])
      clear hx hy
      go_wp2
      go_ret
      exact ⟨by rw [HV.out]; rfl, rfl⟩
set_option maxRecDepth 100000 in
set_option maxHeartbeats 1000000 in
theorem order_any (a b : K) (w : World) :
    Calls Tryz.prog 138 #[.agg #[.int .i64 a.1, .string ⟨a.2.toArray⟩], .agg #[.int .i64 b.1, .string ⟨b.2.toArray⟩]] w fun e w' => e = .returned (.int .i64 (cmpK a b)) ∧ ∃ q os', w' = Sort.grow (w.drewN q) os' := by
  obtain ⟨at', ak⟩ := a
  obtain ⟨bt, bk⟩ := b
  simp only
  go_enter Tryz.func138, Tryz.ntmps138
  go_wp2
  have hb0 : Below w.heap.size w ((w.alloc (.cells #[.int .i64 at', .string ⟨ak.toArray⟩] 103)).alloc (.cells #[.int .i64 bt, .string ⟨bk.toArray⟩] 103)) := ((Below.refl _ w).alloc (Nat.le_refl _) _).alloc (by simp) _
  have A0 := heap_old _ (.cells #[.int .i64 bt, .string ⟨bk.toArray⟩] 103) (heap_new w (.cells #[.int .i64 at', .string ⟨ak.toArray⟩] 103))
  have B0 := heap_new (w.alloc (.cells #[.int .i64 at', .string ⟨ak.toArray⟩] 103)) (.cells #[.int .i64 bt, .string ⟨bk.toArray⟩] 103)
  rw [World.size_alloc] at B0
  generalize hw0 : (w.alloc (.cells #[.int .i64 at', .string ⟨ak.toArray⟩] 103)).alloc (.cells #[.int .i64 bt, .string ⟨bk.toArray⟩] 103) = w0 at *
  have HW0 := Lib.hid hw0
  clear hw0 hb0
  have a0 := cell_of_row _ _ 0 _ _ _ A0
  have a1 := cell_of_row _ _ 1 _ _ _ A0
  have b0 := cell_of_row _ _ 0 _ _ _ B0
  have b1 := cell_of_row _ _ 1 _ _ _ B0
  clear A0 B0
  refine wp_region_still_tail 10 (by kernel_rfl) (by kernel_rfl) ?_
  simp only [List.take_succ_cons, List.take_zero, List.drop_succ_cons, List.drop_zero]
  repeat still_step
  still_call ((compareInt_any _ _ _).mono (fun e w'' h => ⟨h.1, h.2.symm⟩))
  repeat still_step
  still_call ((compareStr_any _ _ _).mono (fun e w'' h => ⟨h.1, h.2.symm⟩))
  refine wpStill_nil ?_
  clear a0 a1 b0 b1
  go_wp2_with fail
  have C0 := heap_new w0 (.cells #[.int .i64 (cmpI at' bt), .int .i64 (cmpL ak bk)] 3)
  refine (or_any w0.heap.size 2 (cmpI at' bt) (cmpL ak bk) (w0.alloc (.cells #[.int .i64 (cmpI at' bt), .int .i64 (cmpL ak bk)] 3)).drew (cell_of_row (w0.alloc (.cells #[.int .i64 (cmpI at' bt), .int .i64 (cmpL ak bk)] 3)) _ 0 _ _ _ C0) (cell_of_row (w0.alloc (.cells #[.int .i64 (cmpI at' bt), .int .i64 (cmpL ak bk)] 3)) _ 1 _ _ _ C0)).mono ?_
  rintro e w3 ⟨rfl, rfl⟩
  clear C0
  rw [show (if cmpI at' bt ≠ 0 then cmpI at' bt else cmpL ak bk) = cmpK (at', ak) (bt, bk) from rfl]
  go_wp2
  go_ret
  refine ⟨rfl, 1, #[.cells #[.int .i64 at', .string ⟨ak.toArray⟩] 103, .cells #[.int .i64 bt, .string ⟨bk.toArray⟩] 103, .cells #[.int .i64 (cmpI at' bt), .int .i64 (cmpL ak bk)] 3], ?_⟩
  rw [← HW0.out]
  exact order_world _ _ _ _
end Go.Proofs.YtkkfmkhbdoeglabGreatDoor
namespace Go.Proofs.YtkkfmkhbdoeglabGreatDoor
open Go.Shelf
def sortF_ren : Go.Shelf.Ren := ⟨fun | 6 => 176 | 15 => 202 | 14 => 201 | 28 => 215 | 29 => 216 | 20 => 207 | 21 => 208 | 22 => 209 | 23 => 210 | 24 => 211 | 25 => 212 | 26 => 213 | 27 => 214 | 46 => 217 | 47 => 218 | 48 => 219 | 49 => 220 | 50 => 221 | 57 => 222 | n => n, fun | 22 => 220 | 24 => 103 | 25 => 227 | 3 => 3 | 39 => 200 | 0 => 0 | 53 => 199 | 55 => 48 | 4 => 4 | 46 => 328 | 45 => 327 | 50 => 268 | 5 => 5 | 9 => 9 | 66 => 335 | 70 => 338 | 76 => 340 | 77 => 282 | n => n, fun | n => n⟩
theorem sortF : Go.Proofs.SlLaysF0.n6 Tryz.prog sortF_ren := {
  mixed := by kernel_rfl
  f6 := ⟨Tryz.f176.name, by decide, Tryz.func176.trans (congrArg some (by kernel_rfl))⟩
  f14 := ⟨Tryz.f201.name, by decide, Tryz.func201.trans (congrArg some (by kernel_rfl))⟩
  f15 := Tryz.func202.trans (congrArg some (by kernel_rfl))
  f20 := ⟨Tryz.f207.name, by decide, Tryz.func207.trans (congrArg some (by kernel_rfl))⟩
  f21 := ⟨Tryz.f208.name, by decide, Tryz.func208.trans (congrArg some (by kernel_rfl))⟩
  f22 := ⟨Tryz.f209.name, by decide, Tryz.func209.trans (congrArg some (by kernel_rfl))⟩
  f23 := ⟨Tryz.f210.name, by decide, Tryz.func210.trans (congrArg some (by kernel_rfl))⟩
  f24 := ⟨Tryz.f211.name, by decide, Tryz.func211.trans (congrArg some (by kernel_rfl))⟩
  f25 := ⟨Tryz.f212.name, by decide, Tryz.func212.trans (congrArg some (by kernel_rfl))⟩
  f26 := ⟨Tryz.f213.name, by decide, Tryz.func213.trans (congrArg some (by kernel_rfl))⟩
  f27 := ⟨Tryz.f214.name, by decide, Tryz.func214.trans (congrArg some (by kernel_rfl))⟩
  f28 := Tryz.func215.trans (congrArg some (by kernel_rfl))
  f29 := Tryz.func216.trans (congrArg some (by kernel_rfl))
  f46 := ⟨Tryz.f217.name, by decide, Tryz.func217.trans (congrArg some (by kernel_rfl))⟩
  f47 := Tryz.func218.trans (congrArg some (by kernel_rfl))
  f48 := Tryz.func219.trans (congrArg some (by kernel_rfl))
  f49 := ⟨Tryz.f220.name, by decide, Tryz.func220.trans (congrArg some (by kernel_rfl))⟩
  f50 := ⟨Tryz.f221.name, by decide, Tryz.func221.trans (congrArg some (by kernel_rfl))⟩
  f57 := ⟨Tryz.f222.name, by decide, Tryz.func222.trans (congrArg some (by kernel_rfl))⟩
  t0 := Tryz.underlying0
  a0 := Tryz.isAgg0
  z0 := Tryz.sizeOf0
  v0 := Tryz.zeroValue0
  t3 := Tryz.underlying3
  a3 := Tryz.isAgg3
  z3 := Tryz.sizeOf3
  v3 := Tryz.zeroValue3
  t4 := Tryz.underlying4
  a4 := Tryz.isAgg4
  z4 := Tryz.sizeOf4
  v4 := Tryz.zeroValue4
  t5 := Tryz.underlying5
  a5 := Tryz.isAgg5
  z5 := Tryz.sizeOf5
  v5 := Tryz.zeroValue5
  t9 := Tryz.underlying9
  a9 := Tryz.isAgg9
  z9 := Tryz.sizeOf9
  v9 := Tryz.zeroValue9
  t22 := Tryz.underlying220
  a22 := Tryz.isAgg220
  z22 := Tryz.sizeOf220
  v22 := Tryz.zeroValue220
  t25 := Tryz.underlying227
  a25 := Tryz.isAgg227
  z25 := Tryz.sizeOf227
  v25 := Tryz.zeroValue227
  t39 := Tryz.underlying200
  a39 := Tryz.isAgg200
  z39 := Tryz.sizeOf200
  v39 := Tryz.zeroValue200
  t45 := Tryz.underlying327
  a45 := Tryz.isAgg327
  z45 := Tryz.sizeOf327
  v45 := Tryz.zeroValue327
  t46 := Tryz.underlying328
  a46 := Tryz.isAgg328
  z46 := Tryz.sizeOf328
  v46 := Tryz.zeroValue328
  t50 := Tryz.underlying268
  a50 := Tryz.isAgg268
  z50 := Tryz.sizeOf268
  v50 := Tryz.zeroValue268
  t53 := Tryz.underlying199
  a53 := Tryz.isAgg199
  z53 := Tryz.sizeOf199
  v53 := Tryz.zeroValue199
  t55 := Tryz.underlying48
  a55 := Tryz.isAgg48
  z55 := Tryz.sizeOf48
  v55 := Tryz.zeroValue48
  t66 := Tryz.underlying335
  a66 := Tryz.isAgg335
  z66 := Tryz.sizeOf335
  v66 := Tryz.zeroValue335
  t70 := Tryz.underlying338
  a70 := Tryz.isAgg338
  z70 := Tryz.sizeOf338
  v70 := Tryz.zeroValue338
  t76 := Tryz.underlying340
  a76 := Tryz.isAgg340
  z76 := Tryz.sizeOf340
  v76 := Tryz.zeroValue340
  t77 := Tryz.underlying282
  a77 := Tryz.isAgg282
  z77 := Tryz.sizeOf282
  v77 := Tryz.zeroValue282 }
end Go.Proofs.YtkkfmkhbdoeglabGreatDoor
namespace Go.Proofs.YtkkfmkhbdoeglabGreatDoor
open Go.RowKit Go.Shelf
attribute [local go_sem] Oper.semAt_some
theorem RangeAt.of_walks {w w' : World} {r q : Nat} {l pre : List (K × Value)} (h : RangeAt w r q l pre) (hk : KeepsWalks w w') : RangeAt w' r q l pre := by
  obtain ⟨zs, ys, clock, since, c0, h1, h2, hb, hq', rest⟩ := h
  exact ⟨zs, ys, clock, since, c0, h1, h2, hk.same r _ hb rfl, hk.same q _ hq' rfl, rest⟩
theorem RangeAt.iter_walk {w : World} {r q : Nat} {l pre : List (K × Value)} (h : RangeAt w r q l pre) : ∃ o : Obj, w.heap[q]? = some o ∧ o.isWalk = true := by
  obtain ⟨zs, ys, clock, since, c0, h1, h2, hb, hq', rest⟩ := h
  exact ⟨_, hq', rfl⟩
set_option maxRecDepth 100000 in
set_option maxHeartbeats 1000000 in
theorem keys_stops (F : Fence) (n : Nat) (hf : F.fn 177) (hro : F.round = none) (hn : 1 ≤ n) (Bm b : Nat) (S : List E) (w : World) (hBm : Bm < w.heap.size) (hm : w.cell? ⟨Bm, 0, none⟩ = some (.map (some b))) (ht : TabAt w b S) :
    SeqStopsA F n Tryz.prog 177 #[.pointer (some ⟨Bm, 0, none⟩)] (fun k : K => #[kV k]) (fun xs => xs.Perm (S.map (·.1))) (fun _ => True) S.length w := by
  intro l J Jx W hW hJ hJx hY h0
  obtain ⟨-, L, hmap, hp⟩ := ht
  have hmapW : MapAt W b L := hmap.old (hW.block _ hmap.lt)
  have hmW : W.cell? ⟨Bm, 0, none⟩ = some (.map (some b)) := (hW.cell (p := ⟨Bm, 0, none⟩) hBm).trans hm
  have hlen : L.length = S.length := by rw [hp.length_eq, List.length_map]
  have hperm : (L.map (·.1)).Perm (S.map (·.1)) := by
    have := hp.map (·.1)
    rw [keys_zS] at this
    exact this
  refine callsIn_of_wp Tryz.func177 rfl hf ?_ hro
  try simp only [Tryz.ntmps177, List.size_toArray, List.length_cons, List.length_nil, Nat.reduceAdd, Nat.reduceSub, Array.replicate_succ, Array.replicate_zero, List.push_toArray, List.append_toArray, List.nil_append, List.cons_append]
  gi_wp2_with (first
    | (gi_at_range; refine wpListIn_range_at rfl _ rfl Tryz.underlying162 rfl hmapW ?_; intro w0 hrg0 hb0 hs0)
    | gi_in)
  try go_frame
  gi_loopw [3] (fun _ wr => ∃ pre, RangeAt wr b W.heap.size L pre ∧ J (pre.map (·.1)) wr) (fun _ wr => wr.rangeLeft b W.heap.size)
  case atStart =>
    exact ⟨[], hrg0, hJ [] W w0 none h0 ⟨hb0.os, hb0.tape, hb0.output, hb0.size, fun k hk _ => hb0.block k hk⟩ (fun r e => by cases e)⟩
  case round =>
    obtain ⟨pre, hrg, hJs⟩ := hrel
    gi_wp2_with (first
      | (gi_at_next; refine wpListIn_next_at rfl _ rfl rfl hrg ?_ ?_)
      | gi_in)
    · intro hpm
      gi_wp2
      go_end0
      exact ⟨⟨_, rfl⟩, .inl ⟨_, (hpm.map _).trans hperm, hJs⟩⟩
    · intro kt kb v w2 hx hxn hrg2 hg2 hs2 hen hrq
      have hJ2 : J (pre.map (·.1)) w2 := hJ _ wr w2 (some W.heap.size) hJs hg2 (fun r e => by cases e; exact ⟨Nat.le_refl _, hrg.iter_walk⟩)
      have hln : (pre.map (·.1)).length < S.length := by
        have h1 := hrg2.left
        rw [List.length_map]
        simp at h1
        omega
      have hJ2' : J (pre.map (·.1)) (w2.alloc (.cells #[.int .i64 kt, .string ⟨kb.toArray⟩] 103)) := hJ _ w2 _ none hJ2 (World.grownBy_alloc w2 _ none) (fun r e => by cases e)
      have hrg2' := hrg2.of_walks (KeepsWalks.alloc w2 (.cells #[.int .i64 kt, .string ⟨kb.toArray⟩] 103))
      obtain ⟨fn, tmps, assign, body, hy, hR⟩ := hY (pre.map (·.1)) (kt, kb) (w2.alloc (.cells #[.int .i64 kt, .string ⟨kb.toArray⟩] 103)) hJ2' hln
      have hle := hrg.left
      have hle2 := hrg2.left
      simp only [List.length_append, List.length_cons, List.length_nil] at hle2
      clear hs2
      unfold kV keyV at hy
      gi_wp2
      refine hR.mono ?_
      rintro e W3 (⟨rfl, hJ3, hk3⟩ | ⟨rfl, hJx3⟩)
      · gi_wp2
        have hrg3 := hrg2'.of_walks hk3
        go_roundw
        case rel => exact ⟨_, hrg3, by rw [List.map_append]; exact hJ3⟩
        case measure =>
          have := hrg3.left
          simp only [List.length_append, List.length_cons, List.length_nil] at this
          omega
      · gi_wp2
        refine bodyPost_ret (results_none rfl _ _ _) rfl ?_
        exact ⟨⟨_, rfl⟩, .inr ⟨_, trivial, hJx3⟩⟩
end Go.Proofs.YtkkfmkhbdoeglabGreatDoor
namespace Go.Proofs.YtkkfmkhbdoeglabGreatDoor
open Go.RowKit Go.Shelf
attribute [local go_sem] Oper.semAt_some
def keyCells (l : List K) : List Value := l.flatMap fun k => [.int .i64 k.1, .string ⟨k.2.toArray⟩]
theorem keyCells_snoc (l : List K) (k : K) : keyCells (l ++ [k]) = keyCells l ++ [.int .i64 k.1, .string ⟨k.2.toArray⟩] := by
  simp [keyCells]
theorem infoKey : (Tryz.prog.info? 103).map (fun i => (i.zero, i.size, i.bytes)) = some (some (.agg #[.int .i64 0, .string ⟨#[]⟩]), 2, 24) := by kernel_rfl
theorem cell_two_new (w : World) (x y : Value) (t : TypeId) : ∀ j u, [x, y][j]? = some u → (w.alloc (.cells #[x, y] t)).cell? ((⟨w.heap.size, 0, none⟩ : Addr).add j) = some u := by
  intro j u hj
  have := cell_of_row (w.alloc (.cells #[x, y] t)) w.heap.size j _ _ _ (heap_new w (.cells #[x, y] t))
  match j, hj with
  | 0, hj => simp at hj; subst hj; simp [Addr.add, this]
  | 1, hj => simp at hj; subst hj; simp [Addr.add, this]
  | j + 2, hj => simp at hj
set_option maxRecDepth 100000 in
set_option maxHeartbeats 4000000 in
theorem appendSeq_any (F : Fence) (n : Nat) (hf : F.fn 200) (hro : F.round = none) (hn : 3 ≤ n) (gf : Nat) (lb : Array Value) (hgf : F.fn gf) (eg : ∀ args w, (callFunc gf args).run Tryz.prog w = .ok (.enter gf args) w)
    (Sx Sp : List K → Prop) (N : Nat) (hN : N ≤ 1000000000) (w : World) (hseq : SeqStopsA F (n - 1) Tryz.prog gf lb (fun k : K => #[kV k]) Sx Sp N w) (_hSx : ∀ xs, Sx xs → xs.length ≤ N) :
    CallsIn F n Tryz.prog 200 #[.slice none 0 0, .func (.func gf) #[] lb] w fun e W' => ∃ v xs, e = .returned v ∧ Sx xs ∧ W'.ownsRow w.heap.size 103 2 v xs.length (keyCells xs) ∧ Below w.heap.size w W' := by
  have h1 : 1 ≤ n := by omega
  obtain ⟨i0, hi, hz0, hz1, hz2⟩ := info_parts infoKey
  refine callsIn_of_wp_marks Tryz.func200 rfl hf ?_ hro
  try simp only [Tryz.ntmps200, List.size_toArray, List.length_cons, List.length_nil, Nat.reduceAdd, Nat.reduceSub, Array.replicate_succ, Array.replicate_zero, List.push_toArray, List.append_toArray, List.nil_append, List.cons_append]
  gi_wp2
  have bS := Boxed.new w 220 (.slice none 0 0)
  have hB0 : Below w.heap.size w (w.alloc (.cells #[.slice none 0 0] 220)) := (Below.refl _ w).alloc (Nat.le_refl _) _
  have hsz : (w.alloc (.cells #[.slice none 0 0] 220)).heap.size = w.heap.size + 1 := by simp
  obtain ⟨W0, hW0⟩ : ∃ W0, w.alloc (.cells #[.slice none 0 0] 220) = W0 := ⟨_, rfl⟩
  rw [hW0] at bS hB0 hsz ⊢
  clear hW0
  refine wpIn_rangeFunc_ownH hro h1 (gf := gf) (lb := lb) rfl hgf eg hseq walksK_t walksK_b hB0 (fun _ => rfl)
    (fun pre W => (∃ v, Boxed W w.heap.size 220 v ∧ W.ownsRow w.heap.size 103 2 v pre.length (keyCells pre) ∧ True) ∧ Below w.heap.size w W)
    (fun _ _ _ => False)
    (OwnFrom.and (Own.from (holdsRow_own w.heap.size w.heap.size 220 103 2 (fun pre : List K => pre.length) keyCells (fun _ _ => True)) _) (ownFrom_below (Nat.le_refl _) (by omega)))
    (fun _ _ _ _ _ hs _ _ => hs)
    ⟨⟨_, bS, World.ownsRow_nil _ _ _ _, trivial⟩, hB0⟩
    (fun x a' W => ∃ Bx, w.heap.size < Bx ∧ W.heap[Bx]? = some (.cells #[.int .i64 x.1, .string ⟨x.2.toArray⟩] 103 (0, 0)) ∧ a' = { tmps := #[.slice none 0 0, .func (.func gf) #[] lb, .pointer (some ⟨w.heap.size, 0, none⟩), undef, .slice none 0 0, .pointer (some ⟨Bx, 0, none⟩), .func (.func gf) #[] lb, .agg #[.int .i64 x.1, .string ⟨x.2.toArray⟩], undef, undef, undef, undef, undef], defers := [] })
    (fun x a' _ X Y row hs hg hr => by
      obtain ⟨Bx, h1, h2, h3⟩ := hs
      exact ⟨Bx, h1, (hg.block Bx (block_lt h2) (fun e => by obtain ⟨-, o, ho, hc⟩ := hr Bx e.symm; rw [h2] at ho; cases ho; cases hc)).trans h2, h3⟩)
    ?assign ?body ?done ?stop
  case assign =>
    rintro l pre x W K ⟨⟨v1, bS1, hr1, -⟩, hB1⟩ hK
    unfold kV keyV
    gi_wp2
    exact hK _ _ ((KeepsOthers.alloc _ _).from _) (KeepsWalks.alloc _ _) ⟨⟨v1, bS1.alloc _, hr1.alloc _, trivial⟩, hB1.alloc hB1.size _⟩ ⟨W.heap.size, bS1.lt, heap_new W _, rfl⟩
  case body =>
    rintro l pre ⟨kt, kb⟩ a' W hl ⟨r, hr⟩ ⟨⟨v, hv, hrow, -⟩, hB⟩ ⟨Bx, hBx, bX, rfl⟩ hlt
    have hc := hv.cell
    have x0 := cell_of_row _ _ 0 _ _ _ bX
    have x1 := cell_of_row _ _ 1 _ _ _ bX
    have hsW := hB.size
    have hmx : maxLen = 9223372036854775807 := rfl
    gi_wp2_with (gi_at_builtin; refine wpListIn_append_own _ rfl _ _ 220 rfl w.heap.size 103 i0 (.agg #[.int .i64 0, .string ⟨#[]⟩]) 2 24 Tryz.underlying220 hi hz0 hz1 hz2 rfl (by decide) _ _ _ rfl (hrow.alloc _) ⟨W.heap.size, 0, none⟩ 1 1 [.int .i64 kt, .string ⟨kb.toArray⟩] rfl rfl (cell_two_new _ _ _ _) (by simp [Value.oneCell']) (by omega) (by omega) (by simp; omega) ?_; intro v' w1 hown' hgrow _; obtain ⟨g', cap', rfl⟩ := ownsRow_succ hown'; obtain ⟨hv1, hv2, hr2, hk2, hb2⟩ := hv.appended (by decide) hrow hB.size (Nat.le_refl _) hown' hgrow; have hc1 := hv1.cell; have hf1 := hv1.frozen)
    exact ⟨hk2.from _, ⟨hk2.size, fun k o h hw => hk2.same k o h (Obj.not_cells_of_walk hw)⟩, ⟨_, hv2, by rw [keyCells_snoc]; simpa using hr2⟩, hB.trans hb2⟩
  case done =>
    rintro D ys W hD hS ⟨⟨v, hv, hrow, -⟩, hB⟩ hK
    have hc := hv.cell
    gi_wp2
    refine ⟨by simp, .inl ⟨_, _, rfl, run_takeDeferred hK, ?_⟩⟩
    exact ⟨_, results_tmp rfl _ _ _, v, ys, rfl, hS, ownsRow_putObj hrow _ hK rfl, hB.trans (belowK_b (w := w) (Nat.le_refl _) W D _ _ (by omega) hK rfl rfl)⟩
  case stop =>
    rintro D c pre W _ _ h _
    exact h.elim
end Go.Proofs.YtkkfmkhbdoeglabGreatDoor
namespace Go.Proofs.YtkkfmkhbdoeglabGreatDoor
open Go.RowKit Go.Shelf Go.Sort
attribute [local go_sem] Oper.semAt_some
def encK (k : K) : List Value := [.int .i64 k.1, .string ⟨k.2.toArray⟩]
theorem cmpK_lt (a b : K) : ltOf cmpK a b = ltK a b := by
  unfold ltOf ltK
  unfold cmpK cmpI cmpL
  rcases Int.lt_trichotomy a.1 b.1 with h | h | h
  · simp [h]
  · have h1 : ¬ a.1 < b.1 := by omega
    have h2 : ¬ b.1 < a.1 := by omega
    by_cases h3 : a.2 < b.2
    · simp [h, h3]
    · by_cases h4 : b.2 < a.2
      · simp [h, h3, h4]
      · simp [h, h3, h4]
  · have h1 : ¬ a.1 < b.1 := by omega
    have h2 : ¬ a.1 = b.1 := by omega
    simp [h, h1, h2]
theorem cmpK_swo : SWO (ltOf cmpK) where
  irrefl x := by rw [cmpK_lt]; exact ltK_irrefl x
  trans x y z h1 h2 := by rw [cmpK_lt] at *; exact ltK_trans h1 h2
  ntrans x y z h1 h2 := by
    rw [cmpK_lt] at *
    cases h : ltK x z with
    | false => rfl
    | true =>
      rcases ltK_tri y x with e | e | e
      · rw [ltK_trans e h] at h2; cases h2
      · subst e; rw [h] at h2; cases h2
      · rw [e] at h1; cases h1
theorem cmpK_part (x y : K) (h1 : ltOf cmpK x y = false) (h2 : ltOf cmpK y x = false) : x = y := by
  rw [cmpK_lt] at *
  rcases ltK_tri x y with e | e | e
  · rw [e] at h1; cases h1
  · exact e
  · rw [e] at h2; cases h2
theorem keyCells_length (l : List K) : (keyCells l).length = l.length * 2 := by
  induction l with
  | nil => rfl
  | cons k l ih => simp [keyCells] at ih ⊢; omega
theorem keyCells_at : ∀ (l : List K) (t : Nat), t < l.length * 2 → (keyCells l)[t]? = some ((encK l.toArray[t / 2]!)[t % 2]!)
  | [], t, h => by simp at h
  | k :: l, 0, _ => by simp [keyCells, encK]
  | k :: l, 1, _ => by simp [keyCells, encK]
  | k :: l, t + 2, h => by
    have ih := keyCells_at l t (by simp at h; omega)
    have e : keyCells (k :: l) = .int .i64 k.1 :: .string ⟨k.2.toArray⟩ :: keyCells l := rfl
    rw [e, show (t + 2) / 2 = t / 2 + 1 by omega, show (t + 2) % 2 = t % 2 by omega]
    simp only [List.getElem?_cons_succ, ih]
    simp
theorem flatK_at (l : List K) (t : Nat) (h : t < l.length * 2) : (keyCells l)[t]? = some (flatK encK 2 l.toArray)[t]! := by
  rw [keyCells_at l t h, get_flatK encK 2 l.toArray t (by simpa using h)]
theorem sortWorld_other {α : Type} [Inhabited α] (enc : α → List Value) (k : Nat) (w : World) (blk off m : Nat) (d : Array α) (os : Array Obj) {i : Nat} (h1 : i < w.heap.size) (h2 : i ≠ blk) : (sortWorldK enc k w blk off m d os).heap[i]? = w.heap[i]? := by
  unfold sortWorldK putRowK putRow mapBlock grow Sort.ahead
  simp only
  rw [Array.getElem?_append_left (by simpa using h1)]
  simp [Array.getElem?_modify, Ne.symm h2]
theorem sortWorld_below {α : Type} [Inhabited α] (enc : α → List Value) (k : Nat) (w : World) (blk off m base : Nat) (d : Array α) (os : Array Obj) (h : base ≤ blk) (hb : base ≤ w.heap.size) : Below base w (sortWorldK enc k w blk off m d os) :=
  ⟨rfl, rfl, rfl, size_sortWorldK_c enc k w blk off m d os, fun i hi => sortWorld_other enc k w blk off m d os (by omega) (by omega)⟩
theorem sortWorld_same {α : Type} [Inhabited α] (enc : α → List Value) (k : Nat) (w : World) (blk off m : Nat) (d : Array α) (os : Array Obj) {cs : Array Value} {t : TypeId} {fz : Nat × Nat} (h : w.heap[blk]? = some (.cells cs t fz)) : ∃ cs', (sortWorldK enc k w blk off m d os).heap[blk]? = some (.cells cs' t fz) := by
  have h1 := block_lt h
  refine ⟨putCells id off (flatK enc k d) cs, ?_⟩
  unfold sortWorldK putRowK putRow mapBlock grow Sort.ahead
  simp only
  rw [Array.getElem?_append_left (by simpa using h1)]
  simp [Array.getElem?_modify, h, onCells]
/-- a slice of keys: those of S, in their order -/
def KeysAt (w : World) (v : Value) (l : List K) : Prop := SliceAt w v 2 l.length (keyCells l) ∧ ∀ g, v.ownBlock = some g → ∃ cs fz, w.heap[g]? = some (.cells cs 103 fz)
def sortK (l : List K) : List K := l.mergeSort fun x y => !(ltOf cmpK) y x
theorem sortK_perm (l : List K) : (sortK l).Perm l := List.mergeSort_perm _ _
theorem sortK_eq {l : List K} {S : List E} (hs : SortedE S) (hp : l.Perm (S.map (·.1))) : sortK l = S.map (·.1) := by
  have h1 : (sortK l).Pairwise fun x y => (!(ltOf cmpK) y x) = true := by
    refine List.pairwise_mergeSort (fun a b c h1 h2 => ?_) (fun a b => ?_) l
    · simp only [Bool.not_eq_true'] at *
      exact cmpK_swo.ntrans _ _ _ h2 h1
    · rw [cmpK_lt, cmpK_lt]
      cases h : ltK a b with
      | true => rw [ltK_asymm h]; rfl
      | false => simp
  have h2 : (S.map (·.1)).Pairwise fun x y => (!(ltOf cmpK) y x) = true := by
    refine List.pairwise_map.2 (List.Pairwise.imp (fun {a b} h => ?_) hs)
    rw [cmpK_lt, ltK_asymm h]
    rfl
  refine List.Perm.eq_of_pairwise (fun a b _ _ ha hb => ?_) h1 h2 ((sortK_perm l).trans hp)
  simp only [Bool.not_eq_true'] at ha hb
  exact cmpK_part a b hb ha
set_option maxRecDepth 100000 in
theorem sortKeys_any (xs : List K) (v : Value) (base : Nat) (w : World) (hr : w.ownsRow base 103 2 v xs.length (keyCells xs)) (hbase : base ≤ w.heap.size) (hx : xs.length ≤ 1000000000) :
    Calls Tryz.prog 176 #[v, .func (.func 138) #[] #[]] w fun e w' => e = .returned (.tuple #[]) ∧ KeysAt w' v (sortK xs) ∧ Below base w w' := by
  obtain ⟨hl, ⟨rfl, h0⟩ | ⟨g, cap, cur, rfl, hg, hgb, hn, hc, hcs, htk⟩⟩ := hr
  · obtain rfl : xs = [] := List.eq_nil_of_length_eq_zero h0
    have h := AnyF.slices_SortFunc_none sortF none 0 (.func (.func 138) #[] #[]) w
    refine Calls.mono (P := Tryz.prog) h ?_
    rintro e w' ⟨rfl, rfl⟩
    exact ⟨rfl, ⟨by have := SliceAt.nil w' none 2 0; simpa [sortK, keyCells] using this, fun g hg => by simp [Value.ownBlock] at hg⟩, Below.refl _ _⟩
  · have hglt := block_lt hgb
    have hH : HoldsK encK 2 w g 0 xs.toArray := by
      intro j hj
      have hj' : j < xs.length * 2 := by simpa using hj
      have hk := flatK_at xs j hj'
      have : cur.toList[j]? = some (flatK encK 2 xs.toArray)[j]! := by
        rw [← hk, ← htk, List.getElem?_take_of_lt hj']
      rw [Nat.zero_add]
      exact ⟨by rw [cell_of_row w g j cur _ _ hgb, ← Array.getElem?_toList, this]; rfl, frozen_of_row w g j _ _ hgb⟩
    have eg : ∀ args w, (callFunc 138 args).run Tryz.prog w = .ok (.enter 138 args) w := enters_of Tryz.func138 (by kernel_rfl) rfl
    have hcmp : CmpLays Tryz.prog 138 #[] encK 2 cmpK g 0 xs.toArray.size w := by
      intro m os dk hdk x y
      exact order_any x y _
    have h := AnyQ.slices_SortFunc_total sortF 2 Tryz.isAgg103 Tryz.sizeOf103 encK (fun _ => rfl) (fun x v hv => by simp [encK] at hv; rcases hv with rfl | rfl <;> rfl) cmpK cmpK_swo 138 #[] g 0 cap xs.toArray w eg hcmp hH hglt (by simp; omega) cmpK_part
    rw [show xs.toArray.size = xs.length by simp] at h
    refine Calls.mono (P := Tryz.prog) h ?_
    rintro e w' ⟨rfl, q, os, rfl⟩
    have hpl := (sortK_perm xs).length_eq
    have hk2 := holdsK_sortWorldK_c encK 2 w g 0 xs.toArray (sortK xs).toArray q os hH hglt (by simpa using hpl)
    refine ⟨rfl, ⟨⟨by rw [keyCells_length], _, cap, by rw [hpl], by omega, fun i hi => ⟨g, 0, rfl, ?_⟩⟩, fun g' hg' => by cases hg'; obtain ⟨cs, h⟩ := sortWorld_same encK 2 w g 0 q (sortK xs).toArray os hgb; exact ⟨cs, _, h⟩⟩, sortWorld_below encK 2 w g 0 q base _ os hg hbase⟩
    rw [keyCells_length] at hi
    have h3 := (hk2 i (by simpa using hi)).1
    have h4 := flatK_at (sortK xs) i hi
    refine h3.trans ?_
    rw [List.getElem?_eq_getElem (by rw [keyCells_length]; exact hi)] at h4
    exact h4.symm
set_option maxRecDepth 100000 in
theorem collect_any (gf : Nat) (lb : Array Value) (eg : ∀ args w, (callFunc gf args).run Tryz.prog w = .ok (.enter gf args) w)
    (Sx Sp : List K → Prop) (N : Nat) (hN : N ≤ 1000000000) (w : World) (hseq : ∀ n, 1 ≤ n → SeqStopsA Fence.wide n Tryz.prog gf lb (fun k : K => #[kV k]) Sx Sp N w) (hSx : ∀ xs, Sx xs → xs.length ≤ N) :
    Calls Tryz.prog 175 #[.func (.func gf) #[] lb] w fun e W' => ∃ v xs, e = .returned v ∧ Sx xs ∧ W'.ownsRow w.heap.size 103 2 v xs.length (keyCells xs) ∧ Below w.heap.size w W' := by
  have HA := Lib.hid (callsIn_wide.1 (appendSeq_any Fence.wide 3 trivial rfl (Nat.le_refl _) gf lb trivial eg Sx Sp N hN w (hseq 2 (by omega)) hSx))
  clear hseq hSx eg
  go_enter Tryz.func175, Tryz.ntmps175
  go_wp2_with fail
  refine HA.out.mono ?_
  rintro e w1 ⟨v, xs, rfl, hS, hr, hb⟩
  have HR := Lib.hid hr
  have HS := Lib.hid hS
  clear hr hS
  go_wp2
  go_ret
  exact ⟨v, xs, rfl, HS.out, HR.out, hb⟩
set_option maxRecDepth 100000 in
theorem sortedKeys_any (Bm b : Nat) (S : List E) (w : World) (hBm : Bm < w.heap.size) (hm : w.cell? ⟨Bm, 0, none⟩ = some (.map (some b))) (ht : TabAt w b S) (hS : S.length ≤ 1000000000) :
    Calls Tryz.prog 136 #[.func (.func 177) #[] #[.pointer (some ⟨Bm, 0, none⟩)], .func (.func 138) #[] #[]] w fun e w' =>
      ∃ v, e = .returned v ∧ KeysAt w' v (S.map (·.1)) ∧ Below w.heap.size w w' := by
  have HC := Lib.hid (collect_any 177 #[.pointer (some ⟨Bm, 0, none⟩)] (enters_of Tryz.func177 (by kernel_rfl) rfl)
    (fun xs => xs.Perm (S.map (·.1))) (fun _ => True) S.length hS w (fun n hn => keys_stops Fence.wide n trivial rfl hn Bm b S w hBm hm ht) (fun xs h => by rw [h.length_eq, List.length_map]; exact Nat.le_refl _))
  have HSO := Lib.hid ht.sorted
  clear ht hm
  go_enter Tryz.func136, Tryz.ntmps136
  go_wp2_with fail
  refine HC.out.mono ?_
  rintro e w1 ⟨v, xs, rfl, hp, hr, hb⟩
  have hln : xs.length = S.length := by rw [hp.length_eq, List.length_map]
  have hsk := sortK_eq HSO.out hp
  have hsz := hb.size
  have HSR := Lib.hid (sortKeys_any xs v w.heap.size w1 hr hsz (by omega))
  rw [hsk] at HSR
  clear hr hp hln hsk
  go_wp2_with fail
  refine HSR.out.mono ?_
  rintro e w2 ⟨rfl, hsl, hb2⟩
  have HSL := Lib.hid hsl
  clear hsl
  go_wp2
  go_ret
  exact ⟨v, rfl, HSL.out, hb.trans hb2⟩
end Go.Proofs.YtkkfmkhbdoeglabGreatDoor
namespace Go.Proofs.YtkkfmkhbdoeglabGreatDoor
open Go.RowKit
section
variable {P : Program} {ops : Array Oper} {md : Region.Mode} {w : World} {nF : Nat}
theorem wpOpIn_of_stOp {F : Fence} (hd : F.depth = none) (hfn : ∀ f, F.fn f) (hc : ∀ f args w R, Calls P f args w R → CallsIn F (nF - 1) P f args w R) (hS : ∀ (i : Nat) o, ops[i]? = some o → ∀ a : Act, o.semAt F.round a.eval = execOp a.eval o)
    {i : Nat} {a : Act} {K : Act → Prop} {K' : Act → World → Prop} {Q' : Exit → Act → World → Prop} (h : ∀ a, K a → K' a w) (hh : stOp P ops w i K a) : wpOpIn F nF P ops Q' i K' a w := by
  unfold stOp at hh
  unfold wpOpIn
  split
  · exact h _ (by simpa [*] using hh)
  · rename_i o ho
    simp only [ho] at hh
    split
    · rename_i hw
      simp only [hw, if_true] at hh
      unfold Oper.still at hh
      unfold Oper.wpIn
      refine ⟨fun f _ => hfn f, ?_⟩
      rw [hS i o ho a]
      generalize (execOp a.eval o).run P w = r at hh
      cases r with
      | ok x w' =>
        cases x <;> simp only [Oper.stillUpon] at hh <;> simp only [Oper.uponIn]
        case enter f args =>
          obtain ⟨rfl, v, hcl, hn⟩ := hh
          refine ⟨fun h => by simp [hd] at h, hc _ _ _ _ (hcl.mono fun e w'' ⟨he, hw⟩ => ?_)⟩
          subst he
          subst hw
          exact h _ hn
        all_goals (obtain ⟨rfl, h2⟩ := hh; exact h _ h2)
      | halt x w' => simp only [Oper.stillUpon] at hh
    · rename_i hw
      simp only [hw] at hh
      exact ⟨fun f _ => hfn f, h _ hh⟩
theorem wpAnyIn_of_head {F : Fence} (hd : F.depth = none) (hfn : ∀ f, F.fn f) (hc : ∀ f args w R, Calls P f args w R → CallsIn F (nF - 1) P f args w R) (hS : ∀ (i : Nat) o, ops[i]? = some o → ∀ a : Act, o.semAt F.round a.eval = execOp a.eval o)
    {n g : Nat} {L : Array Bool → Act → Prop} {Q' : Exit → Act → World → Prop} (hL : ∀ listed a, L listed a → wpAnyIn F nF P md ops Q' g listed a w) :
    ∀ (f : Nat) (listed : Array Bool) (a : Act), wpAnyL P md ops w n L f listed a → wpAnyIn F nF P md ops Q' (f + g) listed a w
  | 0, listed, a, h => by rw [Nat.zero_add]; exact hL _ _ h
  | f + 1, listed, a, h => by
    rw [show f + 1 + g = (f + g) + 1 by omega]
    exact ⟨fun h0 => absurd h0 h.1, fun i hi => wpOpIn_of_stOp hd hfn hc hS (fun a' h' => wpAnyIn_of_head hd hfn hc hS hL f _ a' h') (h.2 i hi).2⟩
theorem wpAnyIn_of_seq {F : Fence} {Q' : Exit → Act → World → Prop} : ∀ (l : List Oper) (k : Nat) (listed : Array Bool) (a : Act) (w : World), (∀ j, l[j]? = ops[k + j]?) →
    Region.seqB md ops l.length k listed = true → wpListIn F nF P ops Q' l a w → wpAnyIn F nF P md ops Q' l.length listed a w
  | [], _, _, _, _, _, hB, h => ⟨by simpa [Region.seqB] using hB, h⟩
  | o :: l, k, listed, a, w, hl, hB, h => by
    have h0 : ops[k]? = some o := by simpa using (hl 0).symm
    simp only [List.length_cons, Region.seqB, Bool.and_eq_true, decide_eq_true_eq] at hB
    refine ⟨fun h1 => (by rw [hB.1] at h1; cases h1), fun i hi => ?_⟩
    rw [hB.1] at hi
    have hik : i = k := by simpa using hi
    subst hik
    have hw : wpOpIn F nF P ops Q' i (wpListIn F nF P ops Q' l) a w := by unfold wpOpIn; simp only [h0]; exact h
    exact wpOpIn_mono (fun a' w' h' => wpAnyIn_of_seq l (i + 1) _ a' w' (fun j => by have := hl (j + 1); simpa [Nat.add_assoc, Nat.add_comm 1 j] using this) hB.2 h') hw
theorem wpIn_region_still_tailF {F : Fence} (hd : F.depth = none) (hfn : ∀ f, F.fn f) (hc : ∀ f args w R, Calls P f args w R → CallsIn F (nF - 1) P f args w R)
    {id : Nat} {Q : Exit → Act → World → Prop} {a : Act} {w : World} {l : List Oper} (n : Nat) (hm : P.follows .mixedOrders = true) (hS : ∀ (i : Nat) o, l.toArray[i]? = some o → ∀ a : Act, o.semAt F.round a.eval = execOp a.eval o) (hB : Region.lexTailB .any l.toArray n = true)
    (h : wpStill P l.toArray { w with drawn := w.drawn + 1 } (fun a' => wpListIn F nF P l.toArray Q (l.drop n) a' { w with drawn := w.drawn + 1 }) (l.take n) a) : (Code.region id l.toArray true).wpIn F nF P Q a w := by
  simp only [Region.lexTailB, Bool.and_eq_true, decide_eq_true_eq] at hB
  obtain ⟨⟨⟨⟨hsel, hn⟩, hs⟩, hcc⟩, hlex⟩ := hB
  have hn' : n < l.length := by simpa using hn
  have htl : (l.take n).length = n := by simp; omega
  have hdl : (l.drop n).length = l.toArray.size - n := by simp
  have inv0 : HeadInv .any l.toArray n (Array.replicate l.toArray.size false) :=
    ⟨by simp, fun j oj _ hl => (by rw [getD_replicate_false] at hl; cases hl), fun t _ ht => getD_in (by simpa using ht) (getD_replicate_false _ _)⟩
  have H := wpAnyL_lex (md := .any) (g := l.toArray.size - n) hsel hs hcc hn (l.take n) 0 _ a (fun j hj => by
    have hj' : j < n := by rw [htl] at hj; exact hj
    simp [hj']) (by simpa using htl) inv0 (by rw [htl]; exact hlex) h
  refine wpIn_region_any hm ?_
  have := wpAnyIn_of_head (nF := nF) (Q' := Q) (g := l.toArray.size - n) hd hfn hc hS (fun listed a' hL => by
    have := wpAnyIn_of_seq (nF := nF) (md := .any) (F := F) (Q' := Q) (l.drop n) n listed a' { w with drawn := w.drawn + 1 } (fun j => by simp [List.getElem?_drop]) (by rw [hdl]; exact hL.1) hL.2
    rwa [hdl] at this) _ _ _ H
  rw [htl, show n + (l.toArray.size - n) = l.toArray.size by omega] at this
  exact this
theorem wpIn_region_still_tail {id : Nat} {Q : Exit → Act → World → Prop} {a : Act} {w : World} {l : List Oper} (n : Nat) (hm : P.follows .mixedOrders = true) (hB : Region.lexTailB .any l.toArray n = true)
    (h : wpStill P l.toArray { w with drawn := w.drawn + 1 } (fun a' => wpListIn Fence.wide nF P l.toArray Q (l.drop n) a' { w with drawn := w.drawn + 1 }) (l.take n) a) : (Code.region id l.toArray true).wpIn Fence.wide nF P Q a w :=
  wpIn_region_still_tailF rfl (fun _ => trivial) (fun _ _ _ _ h => callsIn_wide.2 h) n hm (fun _ _ _ _ => rfl) hB h
end
end Go.Proofs.YtkkfmkhbdoeglabGreatDoor
