/- A part of what is proved here: lemmas and contracts of single functions. No condition but those that each names. -/
import Derived.BigQuiet
import Derived.Deep.QuietTactic
import Derived.Test.YtkkfmkhbdoeglabGreatDoorG36
namespace Go.Proofs.YtkkfmkhbdoeglabGreatDoor
open Go.RowKit Go.Shelf
theorem dpAt_map {w W1 : World} {base h : Nat} {x : HV} {d : DpS} {v : Value} {L : List (List UInt8)} {S' : List E} (HH : HostIs w h { x.stop with log := v }) (HSD : x.stop.dead = d.stop.dead ∧ x.stop.left = d.stop.left) (HRM : x.room = d.room)
    {n : Nat} (hn : n = L.length) (HO : OwnS w base 1 v n (strsV L)) (HTY : CellsOf w v 9) (HNT : v.ownBlock ≠ some x.r) (HNR : h ≠ x.r) (hg : w.grownBy W1 (some x.r)) (ht : TabAt W1 x.r S') (HLO : base ≤ h ∧ base ≤ x.r) (HLB : -1 ≤ d.stop.left ∧ d.stop.left ≤ 9223372036854775807) :
    DpAt W1 base h { x with left := d.stop.left, dead := d.stop.dead, log := v } { d.stop with S := S', log := L } := by
  subst hn
  have hne : ∀ b, v.ownBlock = some b → b ≠ x.r := fun b e1 e2 => HNT (by rw [← e2]; exact e1)
  have hkeep : ∀ j, j ≠ x.r → j < w.heap.size → W1.heap[j]? = w.heap[j]? := fun j hj hlt => hg.block j hlt (fun e => hj (by cases e; rfl))
  refine ⟨?_, rfl, rfl, HRM, ht, HO.frame hg.size fun b e hb => hkeep b (hne b e) hb, HTY.frame fun b e hb => hkeep b (hne b e) hb, HLO, HLB⟩
  unfold HostIs HV.cells at HH ⊢
  rw [hkeep h HNR (block_lt HH)]
  simp only [HSD.1, HSD.2] at HH ⊢
  exact HH
set_option maxRecDepth 100000 in
set_option maxHeartbeats 4000000 in
theorem dpPut_any (base h : Nat) (x : HV) (d : DpS) (t : Int) (kb vb : List UInt8) (w : World) (hd : DpAt w base h x d) (hb : base ≤ w.heap.size) (hll : d.log.length ≤ 8000000000000) (hk : kb.length ≤ maxB) (hv : vb.length ≤ maxB) (hS : d.S.length ≤ 1000000000) :
    Calls Tryz.prog 60 #[.agg #[.pointer (some ⟨h, 0, none⟩)], .agg #[.int .i64 t, .string ⟨kb.toArray⟩], .string ⟨vb.toArray⟩] w (DpPost base h x (d.put (t, kb) vb) w) := by
  have hb0 : Below w.heap.size w ((w.alloc (.cells #[.pointer (some ⟨h, 0, none⟩)] 116)).alloc (.cells #[.int .i64 t, .string ⟨kb.toArray⟩] 103)) := ((Below.refl _ w).alloc (Nat.le_refl _) _).alloc (by simp) _
  have R0 := heap_old _ (.cells #[.int .i64 t, .string ⟨kb.toArray⟩] 103) (heap_new w (.cells #[.pointer (some ⟨h, 0, none⟩)] 116))
  have R1 := heap_new (w.alloc (.cells #[.pointer (some ⟨h, 0, none⟩)] 116)) (.cells #[.int .i64 t, .string ⟨kb.toArray⟩] 103)
  rw [World.size_alloc] at R1
  have rc := cell_of_row _ _ 0 _ _ _ R0
  obtain ⟨hrow, hleft, hdead, hroom, htab, hown, hltyp, hlo, hlb⟩ := hd
  have hlt := block_lt hrow
  have H0 := hrow.old (hb0.block h hlt)
  have HW := Lib.hid hb0
  have HK := Lib.hid (byteI_wrap t)
  have lo : -1 ≤ x.left := by omega
  have hi : x.left ≤ 9223372036854775807 := by omega
  have HST := Lib.hid (stopped_any h x _ H0 lo hi)
  have HNL := Lib.hid (hltyp.ne hrow (by decide))
  have HNR := Lib.hid (htab.ne_row hrow)
  have HNT := Lib.hid (hltyp.ne_tab htab)
  have HRLT : Hid (x.r < w.heap.size) := Lib.hid htab.lt
  have HLO := Lib.hid hlo
  have HLB := Lib.hid hlb
  have HL := Lib.hid hleft
  have HD := Lib.hid hdead
  have HRM := Lib.hid hroom
  have HT := Lib.hid htab
  have HO := Lib.hid hown
  have HTY := Lib.hid hltyp
  have HR0 := Lib.hid R0
  have HR1 := Lib.hid R1
  have HB := Lib.hid hb
  have HLL := Lib.hid hll
  have HROW := Lib.hid hrow
  clear hlo hlb hleft hdead hroom htab hown hltyp R0 R1 hb0 H0 lo hi hb hll hrow
  go_enter Tryz.func60, Tryz.ntmps60
  go_wp2_with fail
  refine HST.out.mono ?_
  rintro e w2 ⟨rfl, hh2, hsz2, hx2⟩
  have hne0 : w.heap.size ≠ h := by omega
  have hne1 : w.heap.size + 1 ≠ h := by omega
  have HR20 := Lib.hid (hx2.at hne0 HR0.out)
  have HR21 := Lib.hid (hx2.at hne1 HR1.out)
  have HH2 := Lib.hid hh2
  have HX2 := Lib.hid hx2
  have HS2 : Hid (w2.heap.size = w.heap.size + 2) := Lib.hid (by rw [hsz2]; simp)
  clear hh2 hx2 hsz2 rc hne0 hne1
  have rc := cell_of_row _ _ 0 _ _ _ HR20.out
  have HXH : Hid (Ext (fun i => i = h) w w2) := Lib.hid ((Ext.of_new HW.out).trans HX2.out)
  have HXW : Hid (Ext (fun i => i = h ∨ i = x.r ∨ x.log.ownBlock = some i) w w2) := Lib.hid (HXH.out.mono fun i e => .inl e)
  have HO2 : Hid (OwnS w2 base 1 x.log d.log.length (strsV d.log)) := Lib.hid (HO.out.frame HXH.out.size fun b e hb => HXH.out.block b hb fun e' => HNL.out (by rw [e, e']))
  have HTY2 : Hid (CellsOf w2 x.log 9) := Lib.hid (HTY.out.frame fun b e hb => HXH.out.block b hb fun e' => HNL.out (by rw [e, e']))
  have HT2 : Hid (TabAt w2 x.r d.S) := Lib.hid (HT.out.old (HXH.out.block _ HRLT.out (Ne.symm HNR.out)))
  have HSD : Hid (x.stop.dead = d.stop.dead ∧ x.stop.left = d.stop.left) := Lib.hid (by unfold HV.stop DpS.stop; rw [HL.out, HD.out]; exact ⟨rfl, rfl⟩)
  have HLB2 : Hid (-1 ≤ d.stop.left ∧ d.stop.left ≤ 9223372036854775807) := Lib.hid (by have := HLB.out; unfold DpS.stop; simp only; split <;> omega)
  cases hdd : x.stop.dead with
  | true =>
    go_wp2
    refine bodyPost_ret (results_none rfl _ _ _) rfl ?_
    have e : d.put (t, kb) vb = d.stop := by unfold DpS.put; rw [← HSD.out.1, hdd]; rfl
    refine ⟨rfl, x.log, ?_, HXW.out, fun i e => .inl e⟩
    rw [e, ← HSD.out.1, ← HSD.out.2]
    exact ⟨HH2.out, HSD.out.2, HSD.out.1, HRM.out, HT2.out, HO2.out, HTY2.out, HLO.out, HLB2.out⟩
  | false =>
    unfold HostIs HV.cells at *
    have c9 := cell_of_row _ _ 11 _ _ _ HH2.out
    have f9 := frozen_of_row _ _ 11 _ _ HH2.out
    have k0 := cell_of_row _ _ 0 _ _ _ HR21.out
    have k1 := cell_of_row _ _ 1 _ _ _ HR21.out
    have hl2 := block_lt HH2.out
    have hl0 := block_lt HR21.out
    have hl00 := block_lt HR20.out
    have HBY : Hid (BytesAt (w2.alloc (.cells #[.int .u8 (IntKind.u8.wrap t)] 5)) (.slice (some ⟨w2.heap.size, 0, none⟩) 1 1) [byteI t]) := Lib.hid (by rw [← HK.out]; exact one_at w2 (byteI t))
    go_wp2
    have hcv := BytesAt.convert (w := (w2.alloc (.cells #[.int .u8 (IntKind.u8.wrap t)] 5)).drew) (by exact HBY.out)
    unfold maxB at hk hv
    have ha1 := fun W => str_add (P := Tryz.prog) [112, 117, 116, 32] [byteI t] (by simp) W
    have ha2 := fun W => str_add (P := Tryz.prog) [112, 117, 116, 32, byteI t] kb (by simp; omega) W
    have ha3 := fun W => str_add (P := Tryz.prog) (112 :: 117 :: 116 :: 32 :: byteI t :: kb) [61] (by simp; omega) W
    have ha4 := fun W => str_add (P := Tryz.prog) (112 :: 117 :: 116 :: 32 :: byteI t :: (kb ++ [61])) vb (by simp; omega) W
    have HAL := fun o o' => Lib.hid (Below.drew (Below.al (Below.al (Below.rf w2) o) o'))
    obtain ⟨L, hL⟩ : ∃ L, L = 112 :: 117 :: 116 :: 32 :: byteI t :: (kb ++ 61 :: vb) := ⟨_, rfl⟩
    have HL' : Hid (putText (t, kb) vb = L) := Lib.hid (by rw [hL]; simp [putText])
    have HS1 := Lib.hid (strOne_at (w2.alloc (.cells #[.int .u8 (IntKind.u8.wrap t)] 5)) L)
    rw [World.size_alloc, hL] at HS1
    simp only [List.getElem?_toArray, List.getElem?_cons_zero, List.getElem?_cons_succ] at rc k0 k1 c9
    have HSA := fun o => Lib.hid (show _ ∧ _ ∧ _ ∧ _ from ⟨cellAl o rc, cellAl o k0, cellAl o k1, cellAl o c9⟩)
    have HSB := fun o o' => Lib.hid (show _ ∧ _ ∧ _ ∧ _ from ⟨cellAl o' (cellAl o rc), cellAl o' (cellAl o k0), cellAl o' (cellAl o k1), cellAl o' (cellAl o c9)⟩)
    refine wp_region_last (n := 23) (S := fun w' => w'.cell? ⟨w.heap.size, 0, none⟩ = some (.pointer (some ⟨h, 0, none⟩)) ∧ w'.cell? ⟨w.heap.size + 1, 0, none⟩ = some (.int .i64 t) ∧ w'.cell? ⟨w.heap.size + 1, 1, none⟩ = some (.string ⟨kb.toArray⟩) ∧ w'.cell? ⟨h, 11, none⟩ = some x.stop.log) (by kernel_rfl) (by kernel_rfl) rfl (by first | exact ⟨rc, k0, k1, c9⟩ | exact (HSA _).out | exact (HSB _ _).out) ?_
    intro hSw0
    simp only [List.extract_toArray, List.extract_eq_take_drop, List.drop_zero, Nat.sub_zero, List.take_succ_cons, List.take_zero, Array.replicate_succ, Array.replicate_zero, List.push_toArray, List.append_toArray, List.nil_append, List.cons_append]
    refine wpAnyH_take (i := 0) (v := ?_) rfl (by kernel_rfl) (by kernel_rfl) (by kernel_rfl) (fun _ _ _ h => h) (Or.inl ⟨by rfl, ?_⟩) (by assumption) ?_
    rotate_left 1
    · (intro w hSw; (try dsimp only at hSw); go_simp; (try with_reducible rfl))
    try simp only [Act.put, List.setIfInBounds_toArray, List.set_cons_zero, List.set_cons_succ]
    refine wpAnyH_take (i := 1) (v := ?_) rfl (by kernel_rfl) (by kernel_rfl) (by kernel_rfl) (fun _ _ _ h => h) (Or.inl ⟨by rfl, ?_⟩) (by assumption) ?_
    rotate_left 1
    · (intro w hSw; (try dsimp only at hSw); go_simp; (try with_reducible rfl))
    try simp only [Act.put, List.setIfInBounds_toArray, List.set_cons_zero, List.set_cons_succ]
    refine wpAnyH_take (i := 2) (v := ?_) rfl (by kernel_rfl) (by kernel_rfl) (by kernel_rfl) (fun _ _ _ h => h) (Or.inl ⟨by rfl, ?_⟩) (by assumption) ?_
    rotate_left 1
    · (intro w hSw; (try dsimp only at hSw); go_simp; (try with_reducible rfl))
    try simp only [Act.put, List.setIfInBounds_toArray, List.set_cons_zero, List.set_cons_succ]
    refine wpAnyH_take (i := 3) (v := ?_) rfl (by kernel_rfl) (by kernel_rfl) (by kernel_rfl) (fun _ _ _ h => h) (Or.inl ⟨by rfl, ?_⟩) (by assumption) ?_
    rotate_left 1
    · (intro w hSw; (try dsimp only at hSw); go_simp; (try with_reducible rfl))
    try simp only [Act.put, List.setIfInBounds_toArray, List.set_cons_zero, List.set_cons_succ]
    refine wpAnyH_take (i := 4) (v := ?_) rfl (by kernel_rfl) (by kernel_rfl) (by kernel_rfl) (fun _ _ _ h => h) (Or.inl ⟨by rfl, ?_⟩) (by assumption) ?_
    rotate_left 1
    · (intro w hSw; (try dsimp only at hSw); go_simp; (try with_reducible rfl))
    try simp only [Act.put, List.setIfInBounds_toArray, List.set_cons_zero, List.set_cons_succ]
    refine wpAnyH_take (i := 5) (v := ?_) rfl (by kernel_rfl) (by kernel_rfl) (by kernel_rfl) (fun _ _ _ h => h) (Or.inl ⟨by rfl, ?_⟩) (by assumption) ?_
    rotate_left 1
    · (intro w hSw; (try dsimp only at hSw); go_simp; (try with_reducible rfl))
    try simp only [Act.put, List.setIfInBounds_toArray, List.set_cons_zero, List.set_cons_succ]
    refine wpAnyH_take (i := 6) (v := ?_) rfl (by kernel_rfl) (by kernel_rfl) (by kernel_rfl) (fun _ _ _ h => h) (Or.inl ⟨by rfl, ?_⟩) (by assumption) ?_
    rotate_left 1
    · (intro w hSw; (try dsimp only at hSw); go_simp; (try with_reducible rfl))
    try simp only [Act.put, List.setIfInBounds_toArray, List.set_cons_zero, List.set_cons_succ]
    refine wpAnyH_take (i := 7) (v := ?_) rfl (by kernel_rfl) (by kernel_rfl) (by kernel_rfl) (fun _ _ _ h => h) (Or.inl ⟨by rfl, ?_⟩) (by assumption) ?_
    rotate_left 1
    · (intro w hSw; (try dsimp only at hSw); go_simp; (try with_reducible rfl))
    try simp only [Act.put, List.setIfInBounds_toArray, List.set_cons_zero, List.set_cons_succ]
    refine wpAnyH_take (i := 8) (v := ?_) rfl (by kernel_rfl) (by kernel_rfl) (by kernel_rfl) (fun _ _ _ h => h) (Or.inl ⟨by rfl, ?_⟩) (by assumption) ?_
    rotate_left 1
    · (intro w hSw; (try dsimp only at hSw); go_simp; (try with_reducible rfl))
    try simp only [Act.put, List.setIfInBounds_toArray, List.set_cons_zero, List.set_cons_succ]
    refine wpAnyH_take (i := 9) (v := ?_) rfl (by kernel_rfl) (by kernel_rfl) (by kernel_rfl) (fun _ _ _ h => h) (Or.inl ⟨by rfl, ?_⟩) (by assumption) ?_
    rotate_left 1
    · (intro w hSw; (try dsimp only at hSw); go_simp; (try with_reducible rfl))
    try simp only [Act.put, List.setIfInBounds_toArray, List.set_cons_zero, List.set_cons_succ]
    refine wpAnyH_take (i := 13) (v := ?_) rfl (by kernel_rfl) (by kernel_rfl) (by kernel_rfl) (fun _ _ _ h => h) (Or.inl ⟨by rfl, ?_⟩) (by assumption) ?_
    rotate_left 1
    · (intro w hSw; (try dsimp only at hSw); go_simp; (try with_reducible rfl))
    try simp only [Act.put, List.setIfInBounds_toArray, List.set_cons_zero, List.set_cons_succ]
    refine wpAnyH_take (i := 14) (v := ?_) rfl (by kernel_rfl) (by kernel_rfl) (by kernel_rfl) (fun _ _ _ h => h) (Or.inl ⟨by rfl, ?_⟩) (by assumption) ?_
    rotate_left 1
    · (intro w hSw; (try dsimp only at hSw); go_simp; (try with_reducible rfl))
    try simp only [Act.put, List.setIfInBounds_toArray, List.set_cons_zero, List.set_cons_succ]
    refine wpAnyH_take (i := 17) (v := ?_) rfl (by kernel_rfl) (by kernel_rfl) (by kernel_rfl) (fun _ _ _ h => h) (Or.inl ⟨by rfl, ?_⟩) (by assumption) ?_
    rotate_left 1
    · (intro w hSw; (try dsimp only at hSw); go_simp; (try with_reducible rfl))
    try simp only [Act.put, List.setIfInBounds_toArray, List.set_cons_zero, List.set_cons_succ]
    refine wpAnyH_ready (rs := [10]) (by kernel_rfl) (by simp) ?_
    refine AllReadyH.cons rfl ?_ AllReadyH.nil
    intro K' hK'
    go_simp
    refine hK'.out _ _ (by first | exact ⟨rc, k0, k1, c9⟩ | exact (HSA _).out | exact (HSB _ _).out) ?_
    clear hK' K'
    intro hSw1
    try simp only [Act.put, List.setIfInBounds_toArray, List.set_cons_zero, List.set_cons_succ]
    refine wpAnyH_ready (rs := [11]) (by kernel_rfl) (by simp) ?_
    refine AllReadyH.cons rfl ?_ AllReadyH.nil
    intro K' hK'
    go_simp
    refine hK'.out _ _ (by first | exact ⟨rc, k0, k1, c9⟩ | exact (HSA _).out | exact (HSB _ _).out) ?_
    clear hK' K'
    intro hSw2
    try simp only [Act.put, List.setIfInBounds_toArray, List.set_cons_zero, List.set_cons_succ]
    refine wpAnyH_take (i := 12) (v := ?_) rfl (by kernel_rfl) (by kernel_rfl) (by kernel_rfl) (fun _ _ _ h => h) (Or.inl ⟨by rfl, ?_⟩) (by assumption) ?_
    rotate_left 1
    · (intro w hSw; (try dsimp only at hSw); go_simp; (try with_reducible rfl))
    try simp only [Act.put, List.setIfInBounds_toArray, List.set_cons_zero, List.set_cons_succ]
    refine wpAnyH_take (i := 15) (v := ?_) rfl (by kernel_rfl) (by kernel_rfl) (by kernel_rfl) (fun _ _ _ h => h) (Or.inl ⟨by rfl, ?_⟩) (by assumption) ?_
    rotate_left 1
    · (intro w hSw; (try dsimp only at hSw); go_simp; (try with_reducible rfl))
    try simp only [Act.put, List.setIfInBounds_toArray, List.set_cons_zero, List.set_cons_succ]
    refine wpAnyH_take (i := 16) (v := ?_) rfl (by kernel_rfl) (by kernel_rfl) (by kernel_rfl) (fun _ _ _ h => h) (Or.inl ⟨by rfl, ?_⟩) (by assumption) ?_
    rotate_left 1
    · (intro w hSw; (try dsimp only at hSw); go_simp; (try with_reducible rfl))
    try simp only [Act.put, List.setIfInBounds_toArray, List.set_cons_zero, List.set_cons_succ]
    refine wpAnyH_take (i := 18) (v := ?_) rfl (by kernel_rfl) (by kernel_rfl) (by kernel_rfl) (fun _ _ _ h => h) (Or.inl ⟨by rfl, ?_⟩) (by assumption) ?_
    rotate_left 1
    · (intro w hSw; (try dsimp only at hSw); go_simp; (try with_reducible rfl))
    try simp only [Act.put, List.setIfInBounds_toArray, List.set_cons_zero, List.set_cons_succ]
    refine wpAnyH_ready (rs := [19]) (by kernel_rfl) (by simp) ?_
    refine AllReadyH.cons rfl ?_ AllReadyH.nil
    intro K' hK'
    go_simp
    refine hK'.out _ _ (by first | exact ⟨rc, k0, k1, c9⟩ | exact (HSA _).out | exact (HSB _ _).out) ?_
    clear hK' K'
    intro hSw3
    try simp only [Act.put, List.setIfInBounds_toArray, List.set_cons_zero, List.set_cons_succ]
    refine wpAnyH_ready (rs := [20]) (by kernel_rfl) (by simp) ?_
    refine AllReadyH.cons rfl ?_ AllReadyH.nil
    intro K' hK'
    refine step_append_strs rfl (.tmp 17) (.tmp 30) rfl base _ _ d.log rfl rfl (by exact HO2.out.below (HAL _ _).out) (by exact HTY2.out.frame fun b _ hb => (HAL _ _).out.block b hb) [L] (by rw [hL]; exact HS1.out) (by have := HLL.out; simp; omega) (by have := HB.out; have := HS2.out; simp; omega) ?_; intro v3 w3 hown3 hg3 hty3 hb3; obtain ⟨sa3, cap3, rfl⟩ := hown3.shape; rw [← hL] at hg3; have HH3 := Lib.hid (grown_at hg3 HNL.out (heap_old _ (.cells #[.string ⟨L.toArray⟩] 9) (heap_old _ (.cells #[.int .u8 (IntKind.u8.wrap t)] 5) HH2.out))); have HR3 := Lib.hid (grown_at hg3 (HTY2.out.ne HR20.out (by decide)) (heap_old _ (.cells #[.string ⟨L.toArray⟩] 9) (heap_old _ (.cells #[.int .u8 (IntKind.u8.wrap t)] 5) HR20.out))); have HK3 := Lib.hid (grown_at hg3 (HTY2.out.ne HR21.out (by decide)) (heap_old _ (.cells #[.string ⟨L.toArray⟩] 9) (heap_old _ (.cells #[.int .u8 (IntKind.u8.wrap t)] 5) HR21.out))); refine hK'.out _ _ ⟨cell_of_row _ _ 0 _ _ _ HR3.out, cell_of_row _ _ 0 _ _ _ HK3.out, cell_of_row _ _ 1 _ _ _ HK3.out, cell_of_row _ _ 11 _ _ _ HH3.out⟩ ?_
    clear hK' K'
    intro hSw4
    try simp only [Act.put, List.setIfInBounds_toArray, List.set_cons_zero, List.set_cons_succ]
    refine wpAnyH_take (i := 21) (v := ?_) rfl (by kernel_rfl) (by kernel_rfl) (by kernel_rfl) (fun _ _ _ h => h) (Or.inl ⟨by rfl, ?_⟩) (by assumption) ?_
    rotate_left 1
    · (intro w hSw; (try dsimp only at hSw); go_simp; (try with_reducible rfl))
    try simp only [Act.put, List.setIfInBounds_toArray, List.set_cons_zero, List.set_cons_succ]
    refine wpAnyH_take (i := 22) (v := ?_) rfl (by kernel_rfl) (by kernel_rfl) (by kernel_rfl) (fun _ _ _ h => h) (Or.inl ⟨by rfl, ?_⟩) (by assumption) ?_
    rotate_left 1
    · (intro w hSw; (try dsimp only at hSw); go_simp; (try with_reducible rfl))
    try simp only [Act.put, List.setIfInBounds_toArray, List.set_cons_zero, List.set_cons_succ]
    refine wpAnyH_done (by kernel_rfl) ?_ _
    show Oper.wp _ _ _ _ _ _
    have e9 := cell_of_row _ _ 11 _ _ _ HH3.out
    have g9 := frozen_of_row _ _ 11 _ _ HH3.out
    have hl3 := block_lt HH3.out
    have HSZ : Hid (w2.heap.size ≤ w3.heap.size) := Lib.hid (by have := hg3.size; simp at this; omega)
    have HN3 := Lib.hid (hty3.ne HH3.out (by decide))
    have HT3 : Hid (TabAt w3 x.r d.S) := Lib.hid (HT2.out.old ((hg3.block _ (by simp; have := HT2.out.lt; omega) (fun e => HNT.out e.symm)).trans ((heap_alloc_old _ _ (by simp; have := HT2.out.lt; omega)).trans (heap_alloc_old _ _ HT2.out.lt))))
    have HNT3 := Lib.hid (hty3.ne_tab HT3.out)
    have HO3 := Lib.hid hown3
    have HTY3 := Lib.hid hty3
    have HOB3 : Hid (∀ i, (Value.slice sa3 (d.log.length + 1) cap3).ownBlock = some i → x.log.ownBlock = some i ∨ w.heap.size ≤ i) := Lib.hid (fun i e => (hb3 i e).imp id fun e' => by have := HS2.out; rw [e']; simp; omega)
    have HX3 : Hid (Ext (fun i => x.log.ownBlock = some i) w2 w3) := Lib.hid ⟨hg3.os, hg3.tape, hg3.output, HSZ.out, fun i hi hne => (hg3.block i (by simp; omega) (fun e => hne e.symm)).trans ((heap_alloc_old _ _ (by simp; omega)).trans (heap_alloc_old _ _ hi))⟩
    clear hown3 hg3 hty3 hb3
    go_wp2
    obtain ⟨w4, hw4⟩ : ∃ w4, w4 = w3.setCell ⟨h, 11, none⟩ (.slice sa3 (d.log.length + 1) cap3) := ⟨_, rfl⟩
    rw [← hw4]
    have hoff : ∀ j, j ≠ h → w4.heap[j]? = w3.heap[j]? := fun j hj => by rw [hw4]; exact Below.heap_setCell _ ⟨h, 11, none⟩ _ j hj
    have HSZ4 : Hid (w4.heap.size = w3.heap.size) := Lib.hid (by rw [hw4, size_setCell])
    have HH4 : Hid (HostIs w4 h { x.stop with log := .slice sa3 (d.log.length + 1) cap3 }) := Lib.hid (by rw [hw4]; exact heap_setCell _ _ 11 _ HH3.out)
    have HR4 := Lib.hid ((hoff _ (by omega : w.heap.size ≠ h)).trans HR3.out)
    have HK4 := Lib.hid ((hoff _ (by omega : w.heap.size + 1 ≠ h)).trans HK3.out)
    have HT4 : Hid (TabAt w4 x.r d.S) := Lib.hid (HT3.out.old (hoff _ (Ne.symm HNR.out)))
    have HO4 := Lib.hid (HO3.out.frame (w' := w4) (by have := HSZ4.out; omega) fun b e _ => hoff b fun e' => HN3.out (by rw [e, e']))
    have HTY4 := Lib.hid (HTY3.out.frame (w' := w4) fun b e _ => hoff b fun e' => HN3.out (by rw [e, e']))
    have HX4 : Hid (Ext (fun i => i = h ∨ i = x.r ∨ x.log.ownBlock = some i) w w4) := Lib.hid (by rw [hw4]; exact (HXW.out.trans (HX3.out.mono fun i e => .inr (.inr e))).setCell _ _ (.inl (.inl rfl)))
    clear hw4 hoff rc k0 k1 c9 f9 e9 g9 hcv ha1 ha2 ha3 ha4 hSw0 hSw1 hSw2 hSw3 hSw4
    unfold HostIs HV.cells at *
    have q0 := cell_of_row _ _ 0 _ _ _ HR4.out
    have k0 := cell_of_row _ _ 0 _ _ _ HK4.out
    have k1 := cell_of_row _ _ 1 _ _ _ HK4.out
    have c8 := cell_of_row _ _ 10 _ _ _ HH4.out
    simp only [List.getElem?_toArray, List.getElem?_cons_zero, List.getElem?_cons_succ] at q0 k0 k1 c8
    have c10 : w4.cell? ⟨h, 10, none⟩ = some (.map (some x.r)) := c8
    clear c8
    have hl4 := block_lt HH4.out
    have hl40 := block_lt HR4.out
    have hl41 := block_lt HK4.out
    have hlr4 := HT4.out.lt
    have hlook := fun o => TabAt.lookup_ok (w := (w4.alloc o).drew) (HT4.out.old (heap_alloc_old _ _ HT4.out.lt)) (mt := 123) Tryz.underlying123 (by kernel_rfl) (t, kb)
    have hlook0 := TabAt.lookup_ok (w := w4.drew) (HT4.out.old rfl) (mt := 123) Tryz.underlying123 (by kernel_rfl) (t, kb)
    simp only [kV, keyV, strV] at hlook hlook0
    go_region
    obtain ⟨w5, hw5⟩ : ∃ w5, w5 = (w4.alloc (.cells #[.string ⟨((getS (t, kb) d.S).getD []).toArray⟩] 179)).drew := ⟨_, rfl⟩
    rw [← hw5]
    have hb5 : Below w4.heap.size w4 w5 := by rw [hw5]; exact ((Below.refl _ w4).alloc (Nat.le_refl _) _).drew
    have HB5 := Lib.hid hb5
    have HH5 := Lib.hid (below_at hb5 hl4 HH4.out)
    have HR5 := Lib.hid (below_at hb5 hl40 HR4.out)
    have HK5 := Lib.hid (below_at hb5 hl41 HK4.out)
    have HT5 : Hid (TabAt w5 x.r d.S) := Lib.hid (HT4.out.old (hb5.block _ hlr4))
    have HO5 := Lib.hid (HO4.out.below hb5)
    have HTY5 := Lib.hid (HTY4.out.frame (w' := w5) fun b _ hlt => hb5.block b hlt)
    have HX5 : Hid (Ext (fun i => i = h ∨ i = x.r ∨ x.log.ownBlock = some i) w w5) := Lib.hid (HX4.out.trans (Ext.of_new hb5))
    have HSZ5 : Hid (w4.heap.size ≤ w5.heap.size) := Lib.hid hb5.size
    clear hw5 hb5 q0 k0 k1 c10 hl4 hl40 hl41 hlr4 hlook hlook0
    obtain ⟨bt, hbt⟩ : ∃ bt, bt = (getS (t, kb) d.S).isSome := ⟨_, rfl⟩
    rw [← hbt]
    have HBT := Lib.hid hbt
    clear hbt
    have q0 := cell_of_row _ _ 0 _ _ _ HR5.out
    have k0 := cell_of_row _ _ 0 _ _ _ HK5.out
    have k1 := cell_of_row _ _ 1 _ _ _ HK5.out
    have c8 := cell_of_row _ _ 10 _ _ _ HH5.out
    have c11 := cell_of_row _ _ 11 _ _ _ HH5.out
    simp only [List.getElem?_toArray, List.getElem?_cons_zero, List.getElem?_cons_succ] at q0 k0 k1 c8 c11
    have c10 : w5.cell? ⟨h, 10, none⟩ = some (.map (some x.r)) := c8
    clear c8
    have hl5 := block_lt HH5.out
    have hl50 := block_lt HR5.out
    have hl51 := block_lt HK5.out
    cases bt with
    | true =>
      go_wp2
      go_quiet (fail)
      go_wp2
      have HROOM : Hid (d.hasRoom (t, kb) = true) := Lib.hid (by unfold DpS.hasRoom; rw [← HBT.out]; rfl)
      obtain ⟨w6, hw6⟩ : ∃ w6, w6 = w5.drewN nq := ⟨_, rfl⟩
      have HB6 : Hid (Below w5.heap.size w5 w6) := Lib.hid (by rw [hw6]; exact (Below.rf w5).drewN _)
      rw [← hw6]
      clear hw6
      have HH6 := Lib.hid (below_at HB6.out hl5 HH5.out)
      have HR6 := Lib.hid (below_at HB6.out hl50 HR5.out)
      have HK6 := Lib.hid (below_at HB6.out hl51 HK5.out)
      have HT6 : Hid (TabAt w6 x.r d.S) := Lib.hid (HT5.out.old (HB6.out.block _ HT5.out.lt))
      have HO6 := Lib.hid (HO5.out.below HB6.out)
      have HTY6 := Lib.hid (HTY5.out.frame (w' := w6) fun b _ hlt => HB6.out.block b hlt)
      have HX6 : Hid (Ext (fun i => i = h ∨ i = x.r ∨ x.log.ownBlock = some i) w w6) := Lib.hid (HX5.out.trans (Ext.of_new HB6.out))
      clear q0 k0 k1 c10 c11 hl5 hl50 hl51
      have q0 := cell_of_row _ _ 0 _ _ _ HR6.out
      have k0 := cell_of_row _ _ 0 _ _ _ HK6.out
      have k1 := cell_of_row _ _ 1 _ _ _ HK6.out
      have c8 := cell_of_row _ _ 10 _ _ _ HH6.out
      simp only [List.getElem?_toArray, List.getElem?_cons_zero, List.getElem?_cons_succ] at q0 k0 k1 c8
      have c10 : w6.cell? ⟨h, 10, none⟩ = some (.map (some x.r)) := c8
      clear c8
      have hl6 := block_lt HH6.out
      have hl60 := block_lt HR6.out
      have hl61 := block_lt HK6.out
      obtain ⟨W1, hu, ht7, hg7, hs7⟩ := TabAt.put (w := w6) HT6.out (mt := 123) Tryz.underlying123 (t, kb) vb
      have hu1 := hu 1
      have hdr : ∀ w : World, w.drewN 1 = w.drew := fun _ => rfl
      rw [hdr, hdr] at hu1
      simp only [kV, keyV, strV] at hu1
      have HT7 := Lib.hid ht7
      have HG7 := Lib.hid hg7
      clear hu hdr ht7 hg7 hs7
      go_region
      go_wp2
      go_end0
      have e : d.put (t, kb) vb = { d.stop with S := putS (t, kb) vb d.S, log := d.log ++ [L] } := by
        unfold DpS.put
        rw [← HSD.out.1, hdd, if_neg (by decide), HROOM.out, if_pos rfl, HL'.out]
      refine ⟨rfl, .slice sa3 (d.log.length + 1) cap3, ?_, ?_, HOB3.out⟩
      · rw [e]
        have h2 := dpAt_map (w := w6) (x := x) (d := d) (v := .slice sa3 (d.log.length + 1) cap3) (L := d.log ++ [L]) HH6.out HSD.out HRM.out (by simp) HO6.out HTY6.out HNT3.out HNR.out HG7.out HT7.out HLO.out HLB2.out
        exact ⟨h2.row.old rfl, h2.left, h2.dead, h2.room, h2.tab.old rfl, h2.own.frame (w' := W1.drew) (Nat.le_refl _) (fun _ _ _ => rfl), h2.ltyp.frame (w' := W1.drew) (fun _ _ _ => rfl), h2.lo, h2.lb⟩
      · exact HX6.out.trans' (T := fun i => i = x.r) (c := W1.drew) ⟨HG7.out.os, HG7.out.tape, HG7.out.output, HG7.out.size, fun k hk hne => HG7.out.block k hk fun e => hne (by cases e; rfl)⟩ fun i e => .inl (.inr (.inl e))
    | false =>
      have HCN := Lib.hid fun W hH hT => countDp_any h { x.stop with log := .slice sa3 (d.log.length + 1) cap3 } d.S t W hH hT hS
      obtain ⟨rv, hrv⟩ : ∃ rv, rv = d.roomOf t := ⟨_, rfl⟩
      have HRV := Lib.hid hrv
      have HRO : Hid (∀ W, HostIs W h { x.stop with log := .slice sa3 (d.log.length + 1) cap3 } → Calls Tryz.prog 103 #[.agg #[.pointer (some ⟨h, 0, none⟩)], .int .i64 t] W fun e w' => e = .returned (.int .i64 rv) ∧ Below W.heap.size W w') := Lib.hid fun W hH => by
        have h1 := room_any h { x.stop with log := .slice sa3 (d.log.length + 1) cap3 } t W hH
        rw [HRV.out]
        unfold DpS.roomOf
        rw [← HRM.out]
        exact h1
      clear hrv
      go_wp2
      have HB0 : Hid (Below w5.heap.size w5 w5.drew) := Lib.hid (Below.rf w5).drew
      go_region_held3 (fun w' => w'.cell? ⟨w.heap.size, 0, none⟩ = some (.pointer (some ⟨h, 0, none⟩)) ∧ w'.cell? ⟨w.heap.size + 1, 0, none⟩ = some (.int .i64 t))
        (first | exact ⟨q0, k0⟩ | exact ⟨(HBc.out.cell (p := ⟨w.heap.size, 0, none⟩) hl50).trans q0, (HBc.out.cell (p := ⟨w.heap.size + 1, 0, none⟩) hl51).trans k0⟩)
        (first
          | (go_at_call 102; refine (HCN.out _ (by first | exact HH5.out | exact below_at HBc.out hl5 HH5.out) (by first | exact HT5.out.old rfl | exact HT5.out.old (HBc.out.block _ HT5.out.lt))).mono ?_; rintro e w6 ⟨rfl, hb6⟩; have HBc : Hid (Below w5.heap.size w5 w6) := Lib.hid (by first | exact HBc.out.tn hb6 | exact HB0.out.tn hb6); clear hb6)
          | (go_at_call 103; refine (HRO.out _ (by first | exact HH5.out | exact below_at HBc.out hl5 HH5.out)).mono ?_; rintro e w6 ⟨rfl, hb6⟩; have HBc : Hid (Below w5.heap.size w5 w6) := Lib.hid (by first | exact HBc.out.tn hb6 | exact HB0.out.tn hb6); clear hb6))
      by_cases hlt : (countS t d.S : Int) < rv
      · go_wp2
        have HROOM : Hid (d.hasRoom (t, kb) = true) := Lib.hid (by unfold DpS.hasRoom; rw [← HRV.out, Bool.or_eq_true, decide_eq_true_eq]; exact .inr hlt)
        have HH6 := Lib.hid (below_at HBc.out hl5 HH5.out)
        have HR6 := Lib.hid (below_at HBc.out hl50 HR5.out)
        have HK6 := Lib.hid (below_at HBc.out hl51 HK5.out)
        have HT6 : Hid (TabAt w6 x.r d.S) := Lib.hid (HT5.out.old (HBc.out.block _ HT5.out.lt))
        have HO6 := Lib.hid (HO5.out.below HBc.out)
        have HTY6 := Lib.hid (HTY5.out.frame (w' := w6) fun b _ hlt => HBc.out.block b hlt)
        have HX6 : Hid (Ext (fun i => i = h ∨ i = x.r ∨ x.log.ownBlock = some i) w w6) := Lib.hid (HX5.out.trans (Ext.of_new HBc.out))
        clear q0 k0 k1 c10 c11 hl5 hl50 hl51
        have q0 := cell_of_row _ _ 0 _ _ _ HR6.out
        have k0 := cell_of_row _ _ 0 _ _ _ HK6.out
        have k1 := cell_of_row _ _ 1 _ _ _ HK6.out
        have c8 := cell_of_row _ _ 10 _ _ _ HH6.out
        simp only [List.getElem?_toArray, List.getElem?_cons_zero, List.getElem?_cons_succ] at q0 k0 k1 c8
        have c10 : w6.cell? ⟨h, 10, none⟩ = some (.map (some x.r)) := c8
        clear c8
        have hl6 := block_lt HH6.out
        have hl60 := block_lt HR6.out
        have hl61 := block_lt HK6.out
        obtain ⟨W1, hu, ht7, hg7, hs7⟩ := TabAt.put (w := w6) HT6.out (mt := 123) Tryz.underlying123 (t, kb) vb
        have hu1 := hu 1
        have hdr : ∀ w : World, w.drewN 1 = w.drew := fun _ => rfl
        rw [hdr, hdr] at hu1
        simp only [kV, keyV, strV] at hu1
        have HT7 := Lib.hid ht7
        have HG7 := Lib.hid hg7
        clear hu hdr ht7 hg7 hs7
        go_region
        go_wp2
        go_end0
        have e : d.put (t, kb) vb = { d.stop with S := putS (t, kb) vb d.S, log := d.log ++ [L] } := by
          unfold DpS.put
          rw [← HSD.out.1, hdd, if_neg (by decide), HROOM.out, if_pos rfl, HL'.out]
        refine ⟨rfl, .slice sa3 (d.log.length + 1) cap3, ?_, ?_, HOB3.out⟩
        · rw [e]
          have h2 := dpAt_map (w := w6) (x := x) (d := d) (v := .slice sa3 (d.log.length + 1) cap3) (L := d.log ++ [L]) HH6.out HSD.out HRM.out (by simp) HO6.out HTY6.out HNT3.out HNR.out HG7.out HT7.out HLO.out HLB2.out
          exact ⟨h2.row.old rfl, h2.left, h2.dead, h2.room, h2.tab.old rfl, h2.own.frame (w' := W1.drew) (Nat.le_refl _) (fun _ _ _ => rfl), h2.ltyp.frame (w' := W1.drew) (fun _ _ _ => rfl), h2.lo, h2.lb⟩
        · exact HX6.out.trans' (T := fun i => i = x.r) (c := W1.drew) ⟨HG7.out.os, HG7.out.tape, HG7.out.output, HG7.out.size, fun k hk hne => HG7.out.block k hk fun e => hne (by cases e; rfl)⟩ fun i e => .inl (.inr (.inl e))
      · go_wp2
        have HROOM : Hid (d.hasRoom (t, kb) = false) := Lib.hid (by unfold DpS.hasRoom; rw [← HBT.out, ← HRV.out, Bool.false_or, decide_eq_false_iff_not]; exact Int.not_lt.2 (by omega))
        have HH6 := Lib.hid (below_at HBc.out hl5 HH5.out)
        have HR6 := Lib.hid (below_at HBc.out hl50 HR5.out)
        have HT6 : Hid (TabAt w6 x.r d.S) := Lib.hid (HT5.out.old (HBc.out.block _ HT5.out.lt))
        have HO6 := Lib.hid (HO5.out.below HBc.out)
        have HTY6 := Lib.hid (HTY5.out.frame (w' := w6) fun b _ hlt => HBc.out.block b hlt)
        have HX6 : Hid (Ext (fun i => i = h ∨ i = x.r ∨ x.log.ownBlock = some i) w w6) := Lib.hid (HX5.out.trans (Ext.of_new HBc.out))
        clear q0 k0 k1 c10 c11 hl5 hl50 hl51
        have rc := cell_of_row _ _ 0 _ _ _ HR6.out
        have c9 := cell_of_row _ _ 11 _ _ _ HH6.out
        have f9 := frozen_of_row _ _ 11 _ _ HH6.out
        simp only [List.getElem?_toArray, List.getElem?_cons_zero, List.getElem?_cons_succ] at rc c9
        have hl6 := block_lt HH6.out
        have hl60 := block_lt HR6.out
        have HN6 := Lib.hid (HTY6.out.ne HH6.out (by decide))
        have HNT6 := Lib.hid (HTY6.out.ne_tab HT6.out)
        have HAL := fun o => Lib.hid (Below.drew (Below.al (Below.rf w6) o))
        have HS1 := Lib.hid (strOne_at w6 noRoomText)
        have HBL : Hid (base ≤ w6.heap.size) := Lib.hid (by have := HB.out; have := HX6.out.size; omega)
        have HSA := fun o => Lib.hid (show _ ∧ _ from ⟨cellAl o rc, cellAl o c9⟩)
        refine wp_region_last (n := 11) (S := fun w' => w'.cell? ⟨w.heap.size, 0, none⟩ = some (.pointer (some ⟨h, 0, none⟩)) ∧ w'.cell? ⟨h, 11, none⟩ = some (.slice sa3 (d.log.length + 1) cap3)) (by kernel_rfl) (by kernel_rfl) rfl (by first | exact ⟨rc, c9⟩ | exact (HSA _).out) ?_
        intro hSw0
        simp only [List.extract_toArray, List.extract_eq_take_drop, List.drop_zero, Nat.sub_zero, List.take_succ_cons, List.take_zero, Array.replicate_succ, Array.replicate_zero, List.push_toArray, List.append_toArray, List.nil_append, List.cons_append]
        refine wpAnyH_take (i := 0) (v := ?_) rfl (by kernel_rfl) (by kernel_rfl) (by kernel_rfl) (fun _ _ _ h => h) (Or.inl ⟨by rfl, ?_⟩) (by assumption) ?_
        rotate_left 1
        · (intro w hSw; (try dsimp only at hSw); go_simp; (try with_reducible rfl))
        try simp only [Act.put, List.setIfInBounds_toArray, List.set_cons_zero, List.set_cons_succ]
        refine wpAnyH_take (i := 1) (v := ?_) rfl (by kernel_rfl) (by kernel_rfl) (by kernel_rfl) (fun _ _ _ h => h) (Or.inl ⟨by rfl, ?_⟩) (by assumption) ?_
        rotate_left 1
        · (intro w hSw; (try dsimp only at hSw); go_simp; (try with_reducible rfl))
        try simp only [Act.put, List.setIfInBounds_toArray, List.set_cons_zero, List.set_cons_succ]
        refine wpAnyH_take (i := 2) (v := ?_) rfl (by kernel_rfl) (by kernel_rfl) (by kernel_rfl) (fun _ _ _ h => h) (Or.inl ⟨by rfl, ?_⟩) (by assumption) ?_
        rotate_left 1
        · (intro w hSw; (try dsimp only at hSw); go_simp; (try with_reducible rfl))
        try simp only [Act.put, List.setIfInBounds_toArray, List.set_cons_zero, List.set_cons_succ]
        refine wpAnyH_take (i := 3) (v := ?_) rfl (by kernel_rfl) (by kernel_rfl) (by kernel_rfl) (fun _ _ _ h => h) (Or.inl ⟨by rfl, ?_⟩) (by assumption) ?_
        rotate_left 1
        · (intro w hSw; (try dsimp only at hSw); go_simp; (try with_reducible rfl))
        try simp only [Act.put, List.setIfInBounds_toArray, List.set_cons_zero, List.set_cons_succ]
        refine wpAnyH_take (i := 4) (v := ?_) rfl (by kernel_rfl) (by kernel_rfl) (by kernel_rfl) (fun _ _ _ h => h) (Or.inl ⟨by rfl, ?_⟩) (by assumption) ?_
        rotate_left 1
        · (intro w hSw; (try dsimp only at hSw); go_simp; (try with_reducible rfl))
        try simp only [Act.put, List.setIfInBounds_toArray, List.set_cons_zero, List.set_cons_succ]
        refine wpAnyH_take (i := 5) (v := ?_) rfl (by kernel_rfl) (by kernel_rfl) (by kernel_rfl) (fun _ _ _ h => h) (Or.inl ⟨by rfl, ?_⟩) (by assumption) ?_
        rotate_left 1
        · (intro w hSw; (try dsimp only at hSw); go_simp; (try with_reducible rfl))
        try simp only [Act.put, List.setIfInBounds_toArray, List.set_cons_zero, List.set_cons_succ]
        refine wpAnyH_take (i := 6) (v := ?_) rfl (by kernel_rfl) (by kernel_rfl) (by kernel_rfl) (fun _ _ _ h => h) (Or.inl ⟨by rfl, ?_⟩) (by assumption) ?_
        rotate_left 1
        · (intro w hSw; (try dsimp only at hSw); go_simp; (try with_reducible rfl))
        try simp only [Act.put, List.setIfInBounds_toArray, List.set_cons_zero, List.set_cons_succ]
        refine wpAnyH_ready (rs := [7]) (by kernel_rfl) (by simp) ?_
        refine AllReadyH.cons rfl ?_ AllReadyH.nil
        intro K' hK'
        go_simp
        refine hK'.out _ _ (by first | exact ⟨rc, c9⟩ | exact (HSA _).out) ?_
        clear hK' K'
        intro hSw1
        try simp only [Act.put, List.setIfInBounds_toArray, List.set_cons_zero, List.set_cons_succ]
        refine wpAnyH_ready (rs := [8]) (by kernel_rfl) (by simp) ?_
        refine AllReadyH.cons rfl ?_ AllReadyH.nil
        intro K' hK'
        refine step_append_strs rfl (.tmp 70) (.tmp 71) rfl base (.slice sa3 (d.log.length + 1) cap3) (d.log.length + 1) (d.log ++ [L]) (by simp) rfl (by exact HO6.out.below (HAL _).out) (by exact HTY6.out.frame fun b _ hb => (HAL _).out.block b hb) [noRoomText] (by exact HS1.out) (by have := HLL.out; simp; omega) (by have := HBL.out; simp; omega) ?_; intro v7 w7 hown7 hg7 hty7 hb7; obtain ⟨sa7, cap7, rfl⟩ := hown7.shape; have HH7 := Lib.hid (grown_at hg7 HN6.out (heap_old _ (.cells #[.string ⟨#[110, 111, 32, 114, 111, 111, 109]⟩] 9) HH6.out)); have HR7 := Lib.hid (grown_at hg7 (HTY6.out.ne HR6.out (by decide)) (heap_old _ (.cells #[.string ⟨#[110, 111, 32, 114, 111, 111, 109]⟩] 9) HR6.out)); refine hK'.out _ _ ⟨cell_of_row _ _ 0 _ _ _ HR7.out, cell_of_row _ _ 11 _ _ _ HH7.out⟩ ?_
        clear hK' K'
        intro hSw2
        try simp only [Act.put, List.setIfInBounds_toArray, List.set_cons_zero, List.set_cons_succ]
        refine wpAnyH_take (i := 9) (v := ?_) rfl (by kernel_rfl) (by kernel_rfl) (by kernel_rfl) (fun _ _ _ h => h) (Or.inl ⟨by rfl, ?_⟩) (by assumption) ?_
        rotate_left 1
        · (intro w hSw; (try dsimp only at hSw); go_simp; (try with_reducible rfl))
        try simp only [Act.put, List.setIfInBounds_toArray, List.set_cons_zero, List.set_cons_succ]
        refine wpAnyH_take (i := 10) (v := ?_) rfl (by kernel_rfl) (by kernel_rfl) (by kernel_rfl) (fun _ _ _ h => h) (Or.inl ⟨by rfl, ?_⟩) (by assumption) ?_
        rotate_left 1
        · (intro w hSw; (try dsimp only at hSw); go_simp; (try with_reducible rfl))
        try simp only [Act.put, List.setIfInBounds_toArray, List.set_cons_zero, List.set_cons_succ]
        refine wpAnyH_done (by kernel_rfl) ?_ _
        show Oper.wp _ _ _ _ _ _
        have e9 := cell_of_row _ _ 11 _ _ _ HH7.out
        have g9 := frozen_of_row _ _ 11 _ _ HH7.out
        have hl7 := block_lt HH7.out
        have HSZ7 : Hid (w6.heap.size ≤ w7.heap.size) := Lib.hid (by have := hg7.size; simp at this; omega)
        have HN7 := Lib.hid (hty7.ne HH7.out (by decide))
        have HT7 : Hid (TabAt w7 x.r d.S) := Lib.hid (HT6.out.old ((hg7.block _ (by simp; have := HT6.out.lt; omega) (fun e => HNT6.out e.symm)).trans (heap_alloc_old _ _ HT6.out.lt)))
        have HNT7 := Lib.hid (hty7.ne_tab HT7.out)
        have HO7 := Lib.hid hown7
        have HTY7 := Lib.hid hty7
        have HOB : Hid (∀ i, (Value.slice sa3 (d.log.length + 1) cap3).ownBlock = some i → x.log.ownBlock = some i ∨ w.heap.size ≤ i) := HOB3
        have HX7 : Hid (Ext (fun i => i = h ∨ i = x.r ∨ x.log.ownBlock = some i) w w7) := Lib.hid (HX6.out.trans' (T := fun i => (Value.slice sa3 (d.log.length + 1) cap3).ownBlock = some i) ⟨hg7.os, hg7.tape, hg7.output, HSZ7.out, fun i hi hne => (hg7.block i (by simp; omega) (fun e => hne e.symm)).trans (heap_alloc_old _ _ hi)⟩ fun i e => (HOB.out i e).imp (fun e => .inr (.inr e)) id)
        have HOB7 : Hid (∀ i, (Value.slice sa7 (d.log.length + 1 + 1) cap7).ownBlock = some i → x.log.ownBlock = some i ∨ w.heap.size ≤ i) := Lib.hid (fun i e => (hb7 i e).elim (fun e' => HOB3.out i e') fun e' => .inr (by have := HX6.out.size; rw [e']; simp; omega))
        clear hown7 hg7 hty7 hb7 rc c9 f9
        go_wp2
        go_end0
        obtain ⟨w8, hw8⟩ : ∃ w8, w8 = w7.setCell ⟨h, 11, none⟩ (.slice sa7 (d.log.length + 1 + 1) cap7) := ⟨_, rfl⟩
        have hoff : ∀ j, j ≠ h → w8.heap[j]? = w7.heap[j]? := fun j hj => by rw [hw8]; exact Below.heap_setCell _ ⟨h, 11, none⟩ _ j hj
        have HSZ8 : Hid (w8.heap.size = w7.heap.size) := Lib.hid (by rw [hw8, size_setCell])
        have HH8 : Hid (HostIs w8 h { x.stop with log := .slice sa7 (d.log.length + 1 + 1) cap7 }) := Lib.hid (by rw [hw8]; exact heap_setCell _ _ 11 _ HH7.out)
        have e : d.put (t, kb) vb = { d.stop with log := d.log ++ [L] ++ [noRoomText] } := by
          unfold DpS.put
          rw [← HSD.out.1, hdd, if_neg (by decide), HROOM.out, if_neg (by decide), HL'.out]
        refine ⟨rfl, .slice sa7 (d.log.length + 1 + 1) cap7, ?_, ?_, HOB7.out⟩
        · rw [e]
          have ho := HO7.out.frame (w' := w8) (by have := HSZ8.out; omega) fun b e _ => hoff b fun e' => HN7.out (by rw [e, e'])
          have hty := HTY7.out.frame (w' := w8) fun b e _ => hoff b fun e' => HN7.out (by rw [e, e'])
          have h2 : DpAt w8 base h { x with left := d.stop.left, dead := d.stop.dead, log := .slice sa7 (d.log.length + 1 + 1) cap7 } { d.stop with log := d.log ++ [L] ++ [noRoomText] } := by
            refine ⟨?_, rfl, rfl, HRM.out, HT7.out.old (hoff _ (Ne.symm HNR.out)), ?_, hty, HLO.out, HLB2.out⟩
            · have h1 := HH8.out
              unfold HostIs HV.cells at h1 ⊢
              simp only [HSD.out.1, HSD.out.2] at h1 ⊢
              exact h1
            · show OwnS w8 base 1 _ (d.log ++ [L] ++ [noRoomText]).length _
              rw [show (d.log ++ [L] ++ [noRoomText]).length = d.log.length + 1 + 1 by simp]
              exact ho
          rw [hw8] at h2
          first
            | exact h2
            | exact ⟨h2.row.old rfl, h2.left, h2.dead, h2.room, h2.tab.old rfl, h2.own.frame (Nat.le_refl _) (fun _ _ _ => rfl), h2.ltyp.frame (fun _ _ _ => rfl), h2.lo, h2.lb⟩
        · first
            | exact HX7.out.setCell _ _ (.inl (.inl rfl))
            | exact (HX7.out.setCell _ _ (.inl (.inl rfl))).drew
end Go.Proofs.YtkkfmkhbdoeglabGreatDoor
