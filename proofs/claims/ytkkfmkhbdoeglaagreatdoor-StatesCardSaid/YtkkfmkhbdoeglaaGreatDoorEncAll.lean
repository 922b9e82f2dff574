/- The contracts of package overlay's EncodeAll, and of package plain's laid and EncodeAll. No condition. -/
import Derived.Test.YtkkfmkhbdoeglaaGreatDoorTold
import Derived.Test.YtkkfmkhbdoeglaaGreatDoorSameE
import Derived.Test.YtkkfmkhbdoeglaaGreatDoorPlainEnc
namespace Go.Proofs.YtkkfmkhbdoeglaaGreatDoor
open Go.RowKit

/-- what tables that can be told hold -/
def FitS (S : List E) : Prop := ∀ x ∈ S, 0 ≤ x.1.1 ∧ x.1.1 < 256 ∧ x.1.2.length ≤ 100 ∧ x.2.length ≤ 100
theorem EncodeAll_good (q r v : Nat) (S : List E) (w : World) (he : EntAt w q 0 r S) (hS : S.length < 65536) (hv : isVersionB v = true) (hb : FitS S) :
    Calls Tryz.prog 57 #[.int .u64 v, .pointer (some ⟨q, 0, none⟩)] w fun e w' => ∃ bv, e = .returned (.tuple #[bv, .nilIface]) ∧ OwnS w' w.heap.size 1 bv (allB v S).length (u8s (allB v S)) ∧ Below w.heap.size w w' := by
  have hc := he.cell
  have H := Lib.hid (told_any q 0 r v S w he hS (isVersionB_lt hv) hb)
  have HV := Lib.hid hv
  clear he hb hv hS
  go_enter Tryz.func57, Tryz.ntmps57
  go_wp2_with fail
  refine (isVersion_any v _).mono ?_
  rintro e w1 ⟨rfl, rfl⟩
  rw [HV.out]
  go_wp2_with fail
  refine H.out.mono ?_
  rintro e w1 ⟨bv, rfl, ho, hb1⟩
  go_wp2
  go_ret2
  exact ⟨bv, rfl, ho, hb1⟩
theorem EncodeAll_bad (q v : Nat) (w : World) (hv : isVersionB v = false) :
    Calls Tryz.prog 57 #[.int .u64 v, .pointer (some ⟨q, 0, none⟩)] w fun e w' => ∃ ev, e = .returned (.tuple #[.slice none 0 0, ev]) ∧ FaultAt w' w.heap.size ev 4 0 ∧ Below w.heap.size w w' := by
  have HV := Lib.hid hv
  clear hv
  go_enter Tryz.func57, Tryz.ntmps57
  go_wp2_with fail
  refine (isVersion_any v _).mono ?_
  rintro e w1 ⟨rfl, rfl⟩
  rw [HV.out]
  go_wp2_with fail
  refine (fault_any 4 0 _).mono ?_
  rintro e w1 ⟨rfl, rfl⟩
  go_wp2
  go_ret2
  exact ⟨_, rfl, FaultAt.new _ _ _ _ (Nat.le_refl _), (Below.refl _ w).alloc (Nat.le_refl _) _⟩
/-- an entry as the change that lays it -/
def putOp (x : E) : OpB := ⟨1, x.1.1, x.1.2, x.2⟩
/-- tables of these entries, each laid by a delta of its own -/
def laidS (l : List E) : List E := l.foldl (fun S x => applyS 1 S [putOp x]) []
theorem laidS_take (l : List E) (k : Nat) (h : k < l.length) : laidS (l.take (k + 1)) = applyS 1 (laidS (l.take k)) [putOp l[k]] := by
  unfold laidS
  rw [List.take_succ_eq_append_getElem h, List.foldl_append]
  rfl
theorem tablesApply_drop (q r : Nat) (S : List E) (v : Nat) (sv : Value) (os : List OpB) (w : World) (he : EntAt w q 0 r S) (hs : OpsAt w sv os) (hg : ShapesVar w) (hfit : OpsFit os) :
    Calls Tryz.prog 55 #[.pointer (some ⟨q, 0, none⟩), .agg #[.int .u64 v, sv]] w fun e w' => (∃ ev, e = .returned ev) ∧ TabAt w' r (applyS v S os) ∧ Ext (fun i => i = r) w w' := by
  unfold applyS
  cases hw : wrongB v os with
  | none => exact (tablesApply_good q r S v sv os w he hs hg hfit hw).mono fun e w' ⟨h1, h2, h3⟩ => ⟨⟨_, h1⟩, h2, h3⟩
  | some f => exact (tablesApply_bad q r S v sv os w he hs hg hfit f hw).mono fun e w' ⟨ev, h1, _, h3⟩ => ⟨⟨_, h1⟩, he.tab.old (h3.block r he.tab.lt), Ext.of_new h3⟩
def LaidRel (w1 : World) (_q r : Nat) (l : List E) (i : Value) (wr : World) : Prop :=
  ∃ k : Nat, k ≤ l.length ∧ i = .int .i64 (k : Int) ∧ TabAt wr r (laidS (l.take k)) ∧ Ext (fun i => i = r) w1 wr
set_option maxRecDepth 100000 in
set_option maxHeartbeats 1000000 in
theorem laid_any (v : Value) (l : List E) (w : World) (h : EntsAt w v l) (hg : ShapesVar w) (hfit : ∀ x ∈ l, OpsFit [putOp x]) (hl : l.length ≤ 1000000000) :
    Calls Tryz.prog 56 #[v] w fun e w' => e = .returned (.pointer (some ⟨w.heap.size + 1, 0, none⟩)) ∧ EntAt w' (w.heap.size + 1) 0 w.heap.size (laidS l) ∧ Below w.heap.size w w' := by
  obtain ⟨a, cap, rfl, hcap, -⟩ := h.opened
  have HL := Lib.hid h
  clear h
  go_enter Tryz.func56, Tryz.ntmps56
  go_wp2_with fail
  refine (newTables_any _).mono ?_
  rintro e w1 ⟨rfl, he, hb1, hs1⟩
  have HE := Lib.hid he
  have HS1 := Lib.hid hs1
  have HL1 := Lib.hid (HL.out.below hb1)
  have HG1 := Lib.hid (hg.new hb1)
  have h2w := hg.two
  clear he hs1 hg
  obtain ⟨r, hr⟩ : ∃ r, r = w.heap.size := ⟨_, rfl⟩
  have hsz : r + 2 ≤ w1.heap.size := by have := HS1.out; omega
  have h2r : 2 ≤ r := by omega
  have HR := Lib.hid hr
  rw [← hr] at HE ⊢
  clear hr
  have HF := Lib.hid hfit
  clear hfit HS1
  go_wp2_with fail
  go_loopw [9] (fun i wr => LaidRel w1 (r + 1) r l i wr) (fun i _ => l.length - (intOf i).toNat)
  case atStart => exact ⟨0, Nat.zero_le _, rfl, HE.out.tab, Ext.refl _ _⟩
  case round =>
    obtain ⟨k, hk, rfl, htab, hx⟩ := hrel
    have hsr := hx.size
    by_cases hlt : k < l.length
    · have hlt' : (k : Int) < l.length := by omega
      obtain ⟨a', cap', he, -, hcell⟩ := HL.out.opened
      cases he
      obtain ⟨ob, oo, rfl, C0, C1, C2⟩ := hcell k hlt
      have lob : ob < r := by rw [HR.out]; exact cell_lt C0
      have hxx : Ext (fun i => i = r) w wr := (Ext.of_new hb1).trans hx
      have c0 := hxx.cell (p := ⟨ob, oo + k * 3, none⟩) (by show ¬ ob = r; omega) C0
      have c1 := hxx.cell (p := ⟨ob, oo + k * 3 + 1, none⟩) (by show ¬ ob = r; omega) C1
      have c2 := hxx.cell (p := ⟨ob, oo + k * 3 + 2, none⟩) (by show ¬ ob = r; omega) C2
      have HT := Lib.hid (laidS_take l k hlt)
      have hF := HF.out l[k] (List.getElem_mem hlt)
      have lob2 := cell_lt c0
      have hgr : ShapesVar wr := HG1.out.old hx.size (hx.block _ (cell_lt HG1.out.c0) (fun e => absurd (show 1 < 2 by decide) (by omega)))
      clear hcell C0 C1 C2
      have hal : Below wr.heap.size wr ((wr.alloc (.cells #[.int .i64 l[k].1.1, .string ⟨l[k].1.2.toArray⟩, .string ⟨l[k].2.toArray⟩] 123)).alloc (.cells #[.int .i64 (putOp l[k]).kind, .int .i64 (putOp l[k]).table, .string ⟨(putOp l[k]).key.toArray⟩, .string ⟨(putOp l[k]).val.toArray⟩] 96)) := ((Below.refl _ wr).alloc (Nat.le_refl _) _).alloc (by simp) _
      have hop := oneOp_at (wr.alloc (.cells #[.int .i64 l[k].1.1, .string ⟨l[k].1.2.toArray⟩, .string ⟨l[k].2.toArray⟩] 123)) (putOp l[k])
      rw [World.size_alloc] at hop
      have HAP := Lib.hid (tablesApply_drop (r + 1) r (laidS (l.take k)) 1 _ _ _ ((HE.out.step hx htab).below hal) hop (hgr.new hal) hF)
      unfold putOp at HAP
      clear hop
      go_wp2_with fail
      refine HAP.out.mono ?_
      rintro e w2 ⟨⟨ev, rfl⟩, ht2, hx2⟩
      have HT2 := Lib.hid ht2
      clear ht2
      go_wp2
      refine ⟨⟨k + 1, by omega, rfl, by rw [HT.out]; exact HT2.out, (hx.past hal).trans hx2⟩, ?_⟩
      simp [intOf]
      omega
    · obtain rfl : k = l.length := by omega
      have hge : ¬ (l.length : Int) < l.length := by omega
      rw [List.take_length] at htab
      go_wp2
      go_ret
      rw [← HR.out]
      refine ⟨rfl, HE.out.step hx htab, ?_⟩
      rw [HR.out]
      exact hb1.trans (hx.below hb1.size (fun j hj e => by have := HR.out; omega))
set_option maxRecDepth 100000 in
set_option maxHeartbeats 1000000 in
theorem plainEncodeAll_good (v : Nat) (sv : Value) (l : List E) (w : World) (h : EntsAt w sv l) (hg : ShapesVar w) (hfit : ∀ x ∈ l, OpsFit [putOp x]) (hl : l.length ≤ 1000000000) (hS : (laidS l).length < 65536) (hv : isVersionB v = true) (hb : FitS (laidS l)) :
    Calls Tryz.prog 25 #[.int .u64 v, sv] w fun e w' => e = .returned (.tuple #[.string ⟨(allB v (laidS l)).toArray⟩, faultV 0 0 0]) ∧ Below w.heap.size w w' := by
  have hb0 : Below w.heap.size w (w.alloc (.cells #[.int .i64 0, .int .i64 0, .int .i64 0] 38)) := (Below.refl _ w).alloc (Nat.le_refl _) _
  have R0 := Lib.hid (heap_new w (.cells #[.int .i64 0, .int .i64 0, .int .i64 0] 38))
  have HL := Lib.hid (laid_any sv l _ (h.below hb0) (hg.new hb0) hfit hl)
  have HV := Lib.hid hv
  have HB := Lib.hid hb
  clear h hg hfit hl hv hb
  go_enter Tryz.func25, Tryz.ntmps25
  go_wp2_with fail
  refine HL.out.mono ?_
  rintro e w1 ⟨rfl, he1, hb1⟩
  simp only [World.size_alloc] at he1 ⊢
  have HE1 := Lib.hid he1
  have R1 := Lib.hid (below_at hb1 (by simp) R0.out)
  have b1 : Below w.heap.size w w1 := hb0.tn hb1
  clear he1
  go_wp2_with fail
  refine (EncodeAll_good _ _ v _ _ HE1.out hS HV.out HB.out).mono ?_
  rintro e w2 ⟨bv, rfl, ho2, hb2⟩
  obtain ⟨ba, bcap, rfl⟩ := ho2.shape
  have R2 := Lib.hid (below_at hb2 (block_lt R1.out) R1.out)
  have b2 := b1.tn hb2
  have hel : 1 ≤ (allB v (laidS l)).length := by unfold allB; simp [be8_length]; omega
  go_wp2_with fail
  refine (parts_nil _).mono ?_
  rintro e w3 ⟨rfl, hb3⟩
  have R3 := Lib.hid (below_at hb3 (block_lt R2.out) R2.out)
  have b3 := b2.tn hb3
  have hge := ho2.ownBlock_ge
  have hbv := (ho2.below hb3).bytes
  obtain ⟨L, hL⟩ : ∃ L, L = allB v (laidS l) := ⟨_, rfl⟩
  have HLL := Lib.hid hL
  rw [← hL] at hel hbv hge ⊢
  clear ho2 hL HL HE1 HB hS HV
  have hs3 := hb3.size
  have hs2 := hb2.size
  have hs1 := hb1.size
  rw [World.size_alloc] at hs1
  have hneF : w3.heap.size ≠ w.heap.size := by omega
  have hne0 : ((L.length : Int) == 0) = false := by rw [beq_eq_false_iff_ne]; omega
  have hap : (Value.slice ba L.length bcap).ownBlock ≠ some w.heap.size := fun e => by have := hge _ e; omega
  go_wp2_with fail
  generalize hw4 : w3.alloc (.cells #[.int .i64 0, .int .i64 0, .int .i64 0] 38) = w4
  have t4 : Below w3.heap.size w3 w4 := by rw [← hw4]; exact (Below.refl _ w3).alloc (Nat.le_refl _) _
  have F4 : Hid (w4.heap[w3.heap.size]? = some (.cells #[.int .i64 0, .int .i64 0, .int .i64 0] 38 (0, 0))) := Lib.hid (by rw [← hw4]; exact heap_new w3 _)
  clear hw4
  have b4 := b3.tn t4
  have R4 := Lib.hid (below_at t4 (block_lt R3.out) R3.out)
  have hbv4 := hbv.below t4
  have f0 : w4.cell? ⟨w3.heap.size, 0, none⟩ = some (.int .i64 0) := cell_of_row _ _ 0 _ _ _ F4.out
  have f1 : w4.cell? ⟨w3.heap.size, 1, none⟩ = some (.int .i64 0) := cell_of_row _ _ 1 _ _ _ F4.out
  have f2 : w4.cell? ⟨w3.heap.size, 2, none⟩ = some (.int .i64 0) := cell_of_row _ _ 2 _ _ _ F4.out
  have r0 : w4.cell? ⟨w.heap.size, 0, none⟩ = some (.int .i64 0) := cell_of_row _ _ 0 _ _ _ R4.out
  have r1 : w4.cell? ⟨w.heap.size, 1, none⟩ = some (.int .i64 0) := cell_of_row _ _ 1 _ _ _ R4.out
  have r2 : w4.cell? ⟨w.heap.size, 2, none⟩ = some (.int .i64 0) := cell_of_row _ _ 2 _ _ _ R4.out
  have z0 := frozen_of_row _ _ 0 _ _ R4.out
  have z1 := frozen_of_row _ _ 1 _ _ R4.out
  have z2 := frozen_of_row _ _ 2 _ _ R4.out
  have hlR := block_lt R4.out
  have hlF := block_lt F4.out
  clear hbv hge
  go_wp2
  go_region_held3 (fun w' => Sem.run Tryz.prog (convert 59 9 (.slice ba L.length bcap)) w' = .ok (.string ⟨L.toArray⟩) w' ∧ w'.cell? ⟨w3.heap.size, 0, none⟩ = some (.int .i64 0) ∧ w'.cell? ⟨w3.heap.size, 1, none⟩ = some (.int .i64 0) ∧ w'.cell? ⟨w3.heap.size, 2, none⟩ = some (.int .i64 0))
    (first
      | exact ⟨BytesAt.convert (w := w4.drew) hbv4, f0, f1, f2⟩
      | exact ⟨BytesAt.convert (w := World.drew _) (((hbv4.setCell_other _ _ hap).setCell_other _ _ hap).setCell_other _ _ hap), cell_apart3 hneF f0, cell_apart3 hneF f1, cell_apart3 hneF f2⟩
      | exact ⟨BytesAt.convert (((hbv4.setCell_other _ _ hap).setCell_other _ _ hap).setCell_other _ _ hap), cell_apart3 hneF f0, cell_apart3 hneF f1, cell_apart3 hneF f2⟩)
    (fail)
  go_wp2
  have x0 : (((w4.setCell ⟨w.heap.size, 0, none⟩ (.int .i64 0)).setCell ⟨w.heap.size, 1, none⟩ (.int .i64 0)).setCell ⟨w.heap.size, 2, none⟩ (.int .i64 0)).cell? ⟨w.heap.size, 0, none⟩ = some (.int .i64 0) := cell_of_row _ _ 0 _ _ _ (heap_setCell _ _ 2 _ (heap_setCell _ _ 1 _ (heap_setCell _ _ 0 _ R4.out)))
  have x1 : (((w4.setCell ⟨w.heap.size, 0, none⟩ (.int .i64 0)).setCell ⟨w.heap.size, 1, none⟩ (.int .i64 0)).setCell ⟨w.heap.size, 2, none⟩ (.int .i64 0)).cell? ⟨w.heap.size, 1, none⟩ = some (.int .i64 0) := cell_of_row _ _ 1 _ _ _ (heap_setCell _ _ 2 _ (heap_setCell _ _ 1 _ (heap_setCell _ _ 0 _ R4.out)))
  have x2 : (((w4.setCell ⟨w.heap.size, 0, none⟩ (.int .i64 0)).setCell ⟨w.heap.size, 1, none⟩ (.int .i64 0)).setCell ⟨w.heap.size, 2, none⟩ (.int .i64 0)).cell? ⟨w.heap.size, 2, none⟩ = some (.int .i64 0) := cell_of_row _ _ 2 _ _ _ (heap_setCell _ _ 2 _ (heap_setCell _ _ 1 _ (heap_setCell _ _ 0 _ R4.out)))
  refine bodyPost_ret (v := .tuple #[.string ⟨L.toArray⟩, .agg #[.int .i64 0, .int .i64 0, .int .i64 0]]) (by simp [results, Tryz.results25, go_sem, x0, x1, x2]) rfl ⟨by rw [HLL.out]; rfl, ?_⟩
  have hB := ((b4.setCell (p := ⟨w.heap.size, 0, none⟩) (Nat.le_refl _) (.int .i64 0)).setCell (p := ⟨w.heap.size, 1, none⟩) (Nat.le_refl _) (.int .i64 0)).setCell (p := ⟨w.heap.size, 2, none⟩) (Nat.le_refl _) (.int .i64 0)
  exact ⟨hB.os, hB.tape, hB.output, hB.size, hB.block⟩
set_option maxRecDepth 100000 in
set_option maxHeartbeats 1000000 in
theorem plainEncodeAll_bad (v : Nat) (sv : Value) (l : List E) (w : World) (h : EntsAt w sv l) (hg : ShapesVar w) (hge : ErrVar w) (hfit : ∀ x ∈ l, OpsFit [putOp x]) (hl : l.length ≤ 1000000000) (hv : isVersionB v = false) :
    Calls Tryz.prog 25 #[.int .u64 v, sv] w fun e w' => e = .returned (.tuple #[.string ⟨[].toArray⟩, faultV 4 0 0]) ∧ Below w.heap.size w w' := by
  have hb0 : Below w.heap.size w (w.alloc (.cells #[.int .i64 0, .int .i64 0, .int .i64 0] 38)) := (Below.refl _ w).alloc (Nat.le_refl _) _
  have R0 := Lib.hid (heap_new w (.cells #[.int .i64 0, .int .i64 0, .int .i64 0] 38))
  have HL := Lib.hid (laid_any sv l _ (h.below hb0) (hg.new hb0) hfit hl)
  have HV := Lib.hid hv
  have HGE := Lib.hid (hge.new hb0)
  clear h hg hge hfit hl hv
  go_enter Tryz.func25, Tryz.ntmps25
  go_wp2_with fail
  refine HL.out.mono ?_
  rintro e w1 ⟨rfl, he1, hb1⟩
  simp only [World.size_alloc] at he1 ⊢
  have HE1 := Lib.hid he1
  have R1 := Lib.hid (below_at hb1 (by simp) R0.out)
  have b1 : Below w.heap.size w w1 := hb0.tn hb1
  clear he1
  go_wp2_with fail
  refine (EncodeAll_bad _ v _ HV.out).mono ?_
  rintro e w2 ⟨ev, rfl, ⟨gf, rfl, hgf, hfa⟩, hb2⟩
  have HFA := Lib.hid hfa
  have HGE2 := Lib.hid ((HGE.out.new hb1).new hb2)
  have R2 := Lib.hid (below_at hb2 (block_lt R1.out) R1.out)
  have b2 := b1.tn hb2
  clear hfa
  go_wp2_with fail
  refine (parts_fault gf 4 0 _ HGE2.out HFA.out (by omega) (by omega)).mono ?_
  rintro e w3 ⟨rfl, hb3⟩
  have R3 := Lib.hid (below_at hb3 (block_lt R2.out) R2.out)
  have b3 := b2.tn hb3
  have hs3 := hb3.size
  have hs2 := hb2.size
  have hs1 := hb1.size
  rw [World.size_alloc] at hs1
  have hneF : w3.heap.size ≠ w.heap.size := by omega
  have hap : (Value.slice none 0 0).ownBlock ≠ some w.heap.size := by simp [Value.ownBlock]
  have hbv := BytesAt.nil w3 none 0
  go_wp2_with fail
  generalize hw4 : w3.alloc (.cells #[.int .i64 4, .int .i64 0, .int .i64 0] 38) = w4
  have t4 : Below w3.heap.size w3 w4 := by rw [← hw4]; exact (Below.refl _ w3).alloc (Nat.le_refl _) _
  have F4 : Hid (w4.heap[w3.heap.size]? = some (.cells #[.int .i64 4, .int .i64 0, .int .i64 0] 38 (0, 0))) := Lib.hid (by rw [← hw4]; exact heap_new w3 _)
  clear hw4
  have b4 := b3.tn t4
  have R4 := Lib.hid (below_at t4 (block_lt R3.out) R3.out)
  have hbv4 := hbv.below t4
  have f0 : w4.cell? ⟨w3.heap.size, 0, none⟩ = some (.int .i64 4) := cell_of_row _ _ 0 _ _ _ F4.out
  have f1 : w4.cell? ⟨w3.heap.size, 1, none⟩ = some (.int .i64 0) := cell_of_row _ _ 1 _ _ _ F4.out
  have f2 : w4.cell? ⟨w3.heap.size, 2, none⟩ = some (.int .i64 0) := cell_of_row _ _ 2 _ _ _ F4.out
  have r0 : w4.cell? ⟨w.heap.size, 0, none⟩ = some (.int .i64 0) := cell_of_row _ _ 0 _ _ _ R4.out
  have r1 : w4.cell? ⟨w.heap.size, 1, none⟩ = some (.int .i64 0) := cell_of_row _ _ 1 _ _ _ R4.out
  have r2 : w4.cell? ⟨w.heap.size, 2, none⟩ = some (.int .i64 0) := cell_of_row _ _ 2 _ _ _ R4.out
  have z0 := frozen_of_row _ _ 0 _ _ R4.out
  have z1 := frozen_of_row _ _ 1 _ _ R4.out
  have z2 := frozen_of_row _ _ 2 _ _ R4.out
  have hlR := block_lt R4.out
  have hlF := block_lt F4.out
  clear hbv
  go_wp2
  go_region_held3 (fun w' => Sem.run Tryz.prog (convert 59 9 (.slice none 0 0)) w' = .ok (.string ⟨[].toArray⟩) w' ∧ w'.cell? ⟨w3.heap.size, 0, none⟩ = some (.int .i64 4) ∧ w'.cell? ⟨w3.heap.size, 1, none⟩ = some (.int .i64 0) ∧ w'.cell? ⟨w3.heap.size, 2, none⟩ = some (.int .i64 0))
    (first
      | exact ⟨BytesAt.convert (w := w4.drew) hbv4, f0, f1, f2⟩
      | exact ⟨BytesAt.convert (w := World.drew _) (((hbv4.setCell_other _ _ hap).setCell_other _ _ hap).setCell_other _ _ hap), cell_apart3 hneF f0, cell_apart3 hneF f1, cell_apart3 hneF f2⟩
      | exact ⟨BytesAt.convert (((hbv4.setCell_other _ _ hap).setCell_other _ _ hap).setCell_other _ _ hap), cell_apart3 hneF f0, cell_apart3 hneF f1, cell_apart3 hneF f2⟩)
    (fail)
  go_wp2
  have x0 : (((w4.setCell ⟨w.heap.size, 0, none⟩ (.int .i64 4)).setCell ⟨w.heap.size, 1, none⟩ (.int .i64 0)).setCell ⟨w.heap.size, 2, none⟩ (.int .i64 0)).cell? ⟨w.heap.size, 0, none⟩ = some (.int .i64 4) := cell_of_row _ _ 0 _ _ _ (heap_setCell _ _ 2 _ (heap_setCell _ _ 1 _ (heap_setCell _ _ 0 _ R4.out)))
  have x1 : (((w4.setCell ⟨w.heap.size, 0, none⟩ (.int .i64 4)).setCell ⟨w.heap.size, 1, none⟩ (.int .i64 0)).setCell ⟨w.heap.size, 2, none⟩ (.int .i64 0)).cell? ⟨w.heap.size, 1, none⟩ = some (.int .i64 0) := cell_of_row _ _ 1 _ _ _ (heap_setCell _ _ 2 _ (heap_setCell _ _ 1 _ (heap_setCell _ _ 0 _ R4.out)))
  have x2 : (((w4.setCell ⟨w.heap.size, 0, none⟩ (.int .i64 4)).setCell ⟨w.heap.size, 1, none⟩ (.int .i64 0)).setCell ⟨w.heap.size, 2, none⟩ (.int .i64 0)).cell? ⟨w.heap.size, 2, none⟩ = some (.int .i64 0) := cell_of_row _ _ 2 _ _ _ (heap_setCell _ _ 2 _ (heap_setCell _ _ 1 _ (heap_setCell _ _ 0 _ R4.out)))
  refine bodyPost_ret (v := .tuple #[.string ⟨[].toArray⟩, .agg #[.int .i64 4, .int .i64 0, .int .i64 0]]) (by simp [results, Tryz.results25, go_sem, x0, x1, x2]) rfl ⟨rfl, ?_⟩
  have hB := ((b4.setCell (p := ⟨w.heap.size, 0, none⟩) (Nat.le_refl _) (.int .i64 4)).setCell (p := ⟨w.heap.size, 1, none⟩) (Nat.le_refl _) (.int .i64 0)).setCell (p := ⟨w.heap.size, 2, none⟩) (Nat.le_refl _) (.int .i64 0)
  exact ⟨hB.os, hB.tape, hB.output, hB.size, hB.block⟩
end Go.Proofs.YtkkfmkhbdoeglaaGreatDoor
