/- The walk of the law Ordered. Condition: errors.As's variable and the tables' shapes. -/
import Derived.Test.YtkkfmkhbdoeglaaDoorTabGood
import Derived.Test.YtkkfmkhbdoeglaaDoorDecAllW
import Derived.Test.YtkkfmkhbdoeglaaDoorKeepDelta
import Derived.Test.YtkkfmkhbdoeglaaDoorSize
import Derived.Test.YtkkfmkhbdoeglaaDoorLaid
import Derived.Deep.CutBlock
namespace Go.Proofs.YtkkfmkhbdoeglaaDoor
open Go.RowKit

theorem IntsAt.sub {w : World} {a : Option Addr} {n cap : Nat} {l : List Int} (h : IntsAt w (.slice a n cap) l) (k : Nat) (hk : k + 8 ≤ l.length) : ∃ b off, a = some ⟨b, off, none⟩ ∧ n = l.length ∧ l.length ≤ cap ∧ IntsAt w (.slice (some ⟨b, off + k, none⟩) 8 (cap - k)) ((l.drop k).take 8) := by
  obtain ⟨a', cap', he, hc, hx⟩ := h.opened
  cases he
  obtain ⟨b, off, rfl, -⟩ := hx k (by omega)
  have hl8 : ((l.drop k).take 8).length = 8 := by rw [List.length_take, List.length_drop]; omega
  refine ⟨b, off, rfl, rfl, hc, by rw [List.length_map, hl8], some ⟨b, off + k, none⟩, cap - k, by rw [hl8], by rw [hl8]; omega, fun i hi => ⟨b, off + k, rfl, ?_⟩⟩
  rw [List.length_map, hl8] at hi
  obtain ⟨b', off', e, c⟩ := hx (k + i) (by omega)
  cases e
  rw [Nat.add_assoc, c]
  simp [List.getElem_take, List.getElem_drop]
theorem drewN_add (w : World) (a b : Nat) : (w.drewN a).drewN b = w.drewN (a + b) := by
  unfold World.drewN
  simp [Nat.add_assoc]
/-- what holds at Ordered's loop -/
def OrdRel (w1 : World) (fb q r : Nat) (i : Value) (wr : World) : Prop :=
  ∃ (k : Nat) (S : List E), k ≤ 20 ∧ i = .int .i64 ((8 * k : Nat) : Int) ∧ TabGood (8 * k) S ∧ FoldAt wr fb q r S ∧ Ext (fun j => j = r) w1 wr
theorem deltaN_fit (l : List Int) : OpsFit (deltaN l) := by
  have h := deltaN_good l 1 (by decide)
  obtain ⟨-, ho⟩ := wrong_ops h
  intro o hm
  obtain ⟨hk, h0, h3, hkey, hval⟩ := ho o hm
  have l1 := isKeyB_length hkey
  have hT : o.table = 0 ∨ o.table = 1 ∨ o.table = 2 := by omega
  have l2 : o.key.length ≤ 6 := by rcases hT with e | e | e <;> (rw [e] at l1; unfold keyLen at l1; simp at l1; omega)
  have l3 : o.val.length ≤ 4 := by
    unfold valOk at hval
    split at hval
    · have : o.val = [] := by simpa using hval
      rw [this]; simp
    · have l4 := isValueB_length h0 h3 hval
      rcases hT with e | e | e <;> (rw [e] at l4; unfold valLen at l4; simp at l4; omega)
  unfold maxB
  omega
theorem fit_put {S : List E} (h : FitS S) : ∀ x ∈ S, OpsFit [putOp x] := fun x hx o ho => by
  rw [List.mem_singleton.1 ho]
  obtain ⟨-, -, h1, h2⟩ := h x hx
  unfold maxB putOp
  simp only []
  omega
set_option maxRecDepth 100000 in
set_option maxHeartbeats 4000000 in
theorem Ordered_walk (v : Int) (rv : Value) (l : List Int) (s : List UInt8) (w : World) (hr : IntsAt w rv l) (hll : l.length ≤ maxB) (hbd : ∀ x ∈ l, -9223372036854775808 ≤ x ∧ x ≤ 9223372036854775807) (hg : ShapesVar w) (hge : ErrVar w) (h1 : -9223372036854775808 ≤ v) (h2 : v ≤ 9223372036854775807) (hsl : s.length ≤ maxB) :
    Calls Tryd.prog 9 #[.int .i64 v, rv, .string ⟨s.toArray⟩] w fun e w' => e = .returned (.bool true) ∧ Below w.heap.size w w' := by
  have hs' := hsl
  have hl' := hll
  unfold maxB at hs' hl'
  obtain ⟨p1, p2⟩ := pickN_bound v 4611686018427387904 (by omega)
  obtain ⟨m, hm⟩ := Int.eq_ofNat_of_zero_le p1
  have hmb : (m : Int) < 4611686018427387904 := by omega
  have HM := Lib.hid hm
  have HPK := Lib.hid (fun W => keepPick_any v 4611686018427387904 W h1 h2 (by omega))
  obtain ⟨V, hV⟩ : ∃ V, V = 1 + m := ⟨_, rfl⟩
  have hver : isVersionB V = true := by unfold isVersionB; simp; omega
  have HV := Lib.hid hV
  have HVER := Lib.hid hver
  obtain ⟨ra, rcap, rfl, hrcap, -⟩ := hr.opened
  have HR := Lib.hid hr
  have HBD := Lib.hid hbd
  have HG := Lib.hid hg
  have HGE := Lib.hid hge
  have h2w := hge.1
  clear hm p1 p2 hV hver hr hbd hg hge
  go_enter Tryd.func9, Tryd.ntmps9
  go_wp2_with fail
  refine (plainFold_any w).mono ?_
  rintro e w1 ⟨rfl, hf1, hb1⟩
  have HF1 := Lib.hid hf1
  have hr1 := hf1.ent.tab.lt
  have hs1 := hb1.size
  obtain ⟨r, hr⟩ : ∃ r, r = w.heap.size := ⟨_, rfl⟩
  have HRR := Lib.hid hr
  have h2r : 2 ≤ r := by omega
  rw [← hr] at HF1 ⊢
  clear hf1 hr
  go_upto_block 0 with fail
  go_cut [] from 25 to 46 (fun wx => ∃ S, TabGood 160 S ∧ FoldAt wx (r + 2) (r + 1) r S ∧ Ext (fun j => j = r) w1 wx)
  case first =>
    go_wp2_with fail
    go_loopw [9] (fun i wr => OrdRel w1 (r + 2) (r + 1) r i wr) (fun i _ => 160 - (intOf i).toNat)
    case atStart => exact ⟨0, [], by omega, rfl, TabGood.nil _, HF1.out, Ext.refl _ _⟩
    case round =>
      obtain ⟨k, S, hk, rfl, hS, hf, hx⟩ := hrel
      have HS := Lib.hid hS
      have HFo := Lib.hid hf
      have hsr := hx.size
      have hxx : Ext (fun j => j = r) w wr := (Ext.of_new hb1).trans hx
      have HGr := Lib.hid (HG.out.old hxx.size (hxx.block _ (cell_lt HG.out.c0) (fun e => absurd (show 0 < 2 by decide) (by omega))))
      have HGEr := Lib.hid (HGE.out.ext hxx (fun j e => by omega))
      have HIr : Hid (IntsAt wr (.slice ra l.length rcap) l) := Lib.hid (SliceAt.frame HR.out (fun b hb hlt => hxx.block b hlt (fun e => by have := HRR.out; omega)))
      clear hS hf
      by_cases hgo : 8 * k + 8 ≤ l.length ∧ k < 20
      · obtain ⟨hlt, hk20⟩ := hgo
        have hlt' : ((8 * k : Nat) : Int) + 8 ≤ l.length := by omega
        have hk' : ((8 * k : Nat) : Int) < 160 := by omega
        obtain ⟨ib, io, rfl, -, hcp, hsub⟩ := HIr.out.sub (8 * k) hlt
        have HSUB := Lib.hid hsub
        clear hsub
        generalize hK : 8 * k = K at *
        obtain ⟨C, hC⟩ : ∃ C, C = (l.drop K).take 8 := ⟨_, rfl⟩
        rw [← hC] at HSUB
        have hCb : ∀ x ∈ C, -9223372036854775808 ≤ x ∧ x ≤ 9223372036854775807 := fun x hx => HBD.out x (List.mem_of_mem_drop (List.mem_of_mem_take (hC ▸ hx)))
        have hCl : C.length ≤ maxB := by rw [hC, List.length_take]; unfold maxB; omega
        have HKD := Lib.hid (keepDelta_any 1 _ C wr HSUB.out hCl hCb)
        have HGOOD := Lib.hid (deltaN_good C 1 (by decide))
        have HFIT := Lib.hid (deltaN_fit C)
        have HS2 := Lib.hid (HS.out.fold HGOOD.out)
        clear hC hCb hCl
        go_wp2_with fail
        refine HKD.out.mono ?_
        rintro e w2 ⟨⟨sv, rfl, ho2⟩, hb2⟩
        obtain ⟨sa, scap, rfl⟩ := ho2.shape
        have HO2 := Lib.hid ho2.ops
        have HF2 := Lib.hid (HFo.out.below hb2)
        have HG2 := Lib.hid (HGr.out.new hb2)
        have HGE2 := Lib.hid (HGEr.out.new hb2)
        have HA : Hid (applyV 1 (deltaN C) = faultV 0 0 0 ∧ applyS 1 S (deltaN C) = foldS S (deltaN C)) := Lib.hid (by unfold applyV applyS; rw [HGOOD.out]; exact ⟨rfl, rfl⟩)
        clear ho2
        go_wp2_with fail
        refine (foldedApply_any _ _ r S 1 _ (deltaN C) w2 HF2.out HO2.out HG2.out HGE2.out HFIT.out h2r).mono ?_
        rintro e w3 ⟨rfl, ht3, hx3⟩
        rw [HA.out.1]
        rw [HA.out.2] at ht3
        have HT3 := Lib.hid ht3
        unfold faultV
        have hx13 : Ext (fun j => j = r) w1 w3 := (hx.past hb2).trans hx3
        have t4 : Below w3.heap.size w3 (w3.alloc (.cells #[.int .i64 0, .int .i64 0, .int .i64 0] 28)) := (Below.refl _ w3).alloc (Nat.le_refl _) _
        have HF4 := Lib.hid ((HF2.out.step hx3 ht3).below t4)
        have hx14 := hx13.past t4
        clear ht3
        go_wp2_with fail
        refine ⟨⟨k + 1, foldS S (deltaN C), by omega, ?_, HS2.out.mono (by omega), HF4.out, hx14⟩, ?_⟩
        · subst hK; congr 1
        · simp [intOf]; omega
      · have hend : ((l.length : Int) < ((8 * k : Nat) : Int) + 8) ∨ (((8 * k : Nat) : Int) + 8 ≤ l.length ∧ (160 : Int) ≤ ((8 * k : Nat) : Int)) := by omega
        have HSM := Lib.hid (HS.out.mono (show 8 * k ≤ 160 by omega))
        clear hgo HS
        obtain ⟨K, hK⟩ : ∃ K, K = 8 * k := ⟨_, rfl⟩
        rw [← hK] at hend ⊢
        have hK1 : K ≤ 160 := by omega
        clear hK hk
        have hbool : (decide ((K : Int) + 8 ≤ (l.length : Int)) = false) ∨ (decide ((K : Int) + 8 ≤ (l.length : Int)) = true ∧ decide ((K : Int) < 160) = false) := by
          rcases hend with h0 | ⟨h0, h9⟩
          · exact .inl (decide_eq_false (by omega))
          · exact .inr ⟨decide_eq_true (by omega), decide_eq_false (by omega)⟩
        clear hend
        rcases hbool with h0 | ⟨h0, h9⟩
        all_goals
          go_wp2_with fail
          go_meet
          exact ⟨S, HSM.out, HFo.out, hx⟩
  case rest =>
    obtain ⟨S, hS, hf, hx⟩ := hcut
    have hxx : Ext (fun j => j = r) w wc := (Ext.of_new hb1).trans hx
    have hwb : Below w.heap.size w wc := hb1.trans (hx.below hb1.size (fun j hj e => by have := HRR.out; omega))
    have HGc := Lib.hid (HG.out.new hwb)
    have HGEc := Lib.hid (HGE.out.new hwb)
    have hsame := laid_same hS.sorted hS.good
    have hsl2 : S.length ≤ 160 := hS.len
    have HSAME := Lib.hid hsame
    have HSORT := Lib.hid hS.sorted
    have HGOOD := Lib.hid hS.good
    have HFITS := Lib.hid hS.fit
    have HFc := Lib.hid hf
    have HWB := Lib.hid hwb
    have HDEC := Lib.hid (decAllB_enc HVER.out hS.sorted hS.good (by omega))
    have HLEN : Hid ((allB V S).length ≤ maxB) := Lib.hid (by
      have h9 := entsB_len (S := S) hS.fit S.attach
      rw [List.attach_map_subtype_val, List.length_attach] at h9
      unfold allB maxB
      simp only [List.length_append, be8_length, List.length_cons, List.length_nil]
      omega)
    clear hsame hS hf hx hxx hwb
    go_wp2_with fail
    refine (foldedEntries_any _ _ r S wc HFc.out (by omega)).mono ?_
    rintro e w2 ⟨sv, rfl, hsv, hb2⟩
    have b2 := HWB.out.tn hb2
    have HS2 := Lib.hid hsv
    clear hsv
    go_wp2_with fail
    refine (HPK.out _).mono ?_
    rintro e w3 ⟨rfl, rfl⟩
    rw [HM.out]
    go_wp2_with fail
    rw [show ((1 : Int) + (m : Int)) = ((V : Nat) : Int) by have := HV.out; omega]
    have HPE := Lib.hid (plainEncodeAll_good V sv S w2 HS2.out (HG.out.new b2) (fit_put HFITS.out) (by omega) (by rw [HSAME.out]; omega) HVER.out (by rw [HSAME.out]; exact HFITS.out))
    refine HPE.out.mono ?_
    rintro e w4 ⟨rfl, hb4⟩
    rw [HSAME.out]
    unfold faultV
    have b4 := b2.tn hb4
    have t5 : Below w4.heap.size w4 (w4.alloc (.cells #[.int .i64 0, .int .i64 0, .int .i64 0] 28)) := (Below.refl _ w4).alloc (Nat.le_refl _) _
    have F5 := Lib.hid (heap_new w4 (.cells #[.int .i64 0, .int .i64 0, .int .i64 0] 28))
    have b5 := b4.tn t5
    have HS5 := Lib.hid (HS2.out.below (hb4.tn t5))
    clear HPE
    go_wp2_with fail
    generalize w4.alloc (.cells #[.int .i64 0, .int .i64 0, .int .i64 0] 28) = w5 at *
    clear t5 hb4
    refine (plainDecodeAll_good (allB V S) w5 HLEN.out (HG.out.new b5) V S HDEC.out (by omega)).mono ?_
    rintro e w6 ⟨⟨tv, rfl, htv⟩, hb6⟩
    unfold faultV
    have b6 := b5.tn hb6
    have F6 := Lib.hid (below_at hb6 (block_lt F5.out) F5.out)
    have HS6 := Lib.hid (HS5.out.below hb6)
    have t7 : Below w6.heap.size w6 (w6.alloc (.cells #[.int .i64 0, .int .i64 0, .int .i64 0] 28)) := (Below.refl _ w6).alloc (Nat.le_refl _) _
    have F7 := Lib.hid (below_at t7 (block_lt F6.out) F6.out)
    have G7 := Lib.hid (heap_new w6 (.cells #[.int .i64 0, .int .i64 0, .int .i64 0] 28))
    have b7 := b6.tn t7
    have HS7 := Lib.hid (HS6.out.below t7)
    have HT7 := Lib.hid (htv.below t7)
    have hsz46 := hb6.size
    have hlF := block_lt F6.out
    clear htv
    go_wp2_with fail
    generalize hw7 : w6.alloc (.cells #[.int .i64 0, .int .i64 0, .int .i64 0] 28) = w7 at *
    obtain ⟨fB, hfB⟩ : ∃ fB, fB = w4.heap.size := ⟨_, rfl⟩
    obtain ⟨gB, hgB⟩ : ∃ gB, gB = w6.heap.size := ⟨_, rfl⟩
    rw [← hfB] at F7 hlF ⊢
    rw [← hgB] at G7 ⊢
    have hfg : fB < gB := by omega
    have hwg : w.heap.size ≤ gB := by rw [hgB]; exact b6.size
    have hwf : w.heap.size ≤ fB := by rw [hfB]; exact b4.size
    clear hw7 hfB hgB F5 F6 t7 hb6
    refine (sameEntries_true sv tv S w7 HS7.out HT7.out (by omega)).mono ?_
    rintro e w8 ⟨rfl, hb8⟩
    have b8 := b7.tn hb8
    have F8 := Lib.hid (below_at hb8 (block_lt F7.out) F7.out)
    have G8 := Lib.hid (below_at hb8 (block_lt G7.out) G7.out)
    have f0 := cell_of_row _ _ 0 _ _ _ F8.out
    have f1 := cell_of_row _ _ 1 _ _ _ F8.out
    have f2 := cell_of_row _ _ 2 _ _ _ F8.out
    have g0 := cell_of_row _ _ 0 _ _ _ G8.out
    have g1 := cell_of_row _ _ 1 _ _ _ G8.out
    have g2 := cell_of_row _ _ 2 _ _ _ G8.out
    have fg0 := frozen_of_row _ _ 0 _ _ G8.out
    have fg1 := frozen_of_row _ _ 1 _ _ G8.out
    have fg2 := frozen_of_row _ _ 2 _ _ G8.out
    have hlf := block_lt F8.out
    have hlg := block_lt G8.out
    clear F7 G7 HS7 HT7 hb8
    go_wp2_with fail
    refine (HPK.out _).mono ?_
    rintro e w9 ⟨rfl, rfl⟩
    rw [HM.out]
    have hvv : (1 : Int) + (m : Int) = (V : Int) := by have := HV.out; omega
    go_wp2_with fail
    cases hd : decAllB s with
    | inr kp =>
      obtain ⟨kk, pp⟩ := kp
      have hk := decAllB_inr hd
      refine (plainDecodeAll_bad s w8 hsl (HG.out.new b8) (HGE.out.new b8) kk pp hd (by omega)).mono ?_
      rintro e w9 ⟨rfl, hb9⟩
      unfold faultV
      have b9 := b8.tn hb9
      have G9 := Lib.hid (below_at hb9 (block_lt G8.out) G8.out)
      have g0 := cell_of_row _ _ 0 _ _ _ G9.out
      have g1 := cell_of_row _ _ 1 _ _ _ G9.out
      have g2 := cell_of_row _ _ 2 _ _ _ G9.out
      have fg0 := frozen_of_row _ _ 0 _ _ G9.out
      have fg1 := frozen_of_row _ _ 1 _ _ G9.out
      have fg2 := frozen_of_row _ _ 2 _ _ G9.out
      have hlg := block_lt G9.out
      have hX : (((w9.setCell ⟨gB, 0, none⟩ (.int .i64 kk)).setCell ⟨gB, 1, none⟩ (.int .i64 pp)).setCell ⟨gB, 2, none⟩ (.int .i64 0)).heap[gB]? = some (.cells #[.int .i64 kk, .int .i64 pp, .int .i64 0] 28 (0, 0)) := heap_setCell _ _ 2 _ (heap_setCell _ _ 1 _ (heap_setCell _ _ 0 _ G9.out))
      have hB := ((b9.setCell (p := ⟨gB, 0, none⟩) hwg (.int .i64 kk)).setCell (p := ⟨gB, 1, none⟩) hwg (.int .i64 pp)).setCell (p := ⟨gB, 2, none⟩) hwg (.int .i64 0)
      have hkn : ((kk : Int) != 0) = true := by rw [bne_iff_ne]; omega
      have hp0 : (0 : Int) ≤ pp := by omega
      have hp1 : (pp : Int) ≤ s.length := by omega
      clear f0 f1 f2 hlf hd hk
      go_upto_region 17 with fail
      generalize ((w9.setCell ⟨gB, 0, none⟩ (.int .i64 kk)).setCell ⟨gB, 1, none⟩ (.int .i64 pp)).setCell ⟨gB, 2, none⟩ (.int .i64 0) = w10 at *
      have x0 := cell_of_row _ _ 0 _ _ _ hX
      have x1 := cell_of_row _ _ 1 _ _ _ hX
      have hlx := block_lt hX
      clear g0 g1 g2 fg0 fg1 fg2 hlg hX
      go_wp2
      go_ret
      exact ⟨rfl, hB⟩
    | inl x =>
      obtain ⟨n, T⟩ := x
      have hT := decAllB_inl hd
      obtain ⟨hn, hgood, hall⟩ := decAllB_dec hd
      refine (plainDecodeAll_good s w8 hsl (HG.out.new b8) n T hd (by omega)).mono ?_
      rintro e w9 ⟨⟨uv, rfl, huv⟩, hb9⟩
      unfold faultV
      have b9 := b8.tn hb9
      have G9 := Lib.hid (below_at hb9 (block_lt G8.out) G8.out)
      have F9 := Lib.hid (below_at hb9 (block_lt F8.out) F8.out)
      have g0 := cell_of_row _ _ 0 _ _ _ G9.out
      have g1 := cell_of_row _ _ 1 _ _ _ G9.out
      have g2 := cell_of_row _ _ 2 _ _ _ G9.out
      have fg0 := frozen_of_row _ _ 0 _ _ G9.out
      have fg1 := frozen_of_row _ _ 1 _ _ G9.out
      have fg2 := frozen_of_row _ _ 2 _ _ G9.out
      have hlg := block_lt G9.out
      have HU10 : Hid (EntsAt (((w9.setCell ⟨gB, 0, none⟩ (.int .i64 0)).setCell ⟨gB, 1, none⟩ (.int .i64 0)).setCell ⟨gB, 2, none⟩ (.int .i64 0)) uv T) := Lib.hid (by
        rcases huv.apart G9.out with rfl | hne
        · obtain ⟨a', cap', rfl, -, -⟩ := huv.opened
          exact SliceAt.nil _ _ _ _
        · exact ((huv.setCell_other ⟨gB, 0, none⟩ (.int .i64 0) hne).setCell_other ⟨gB, 1, none⟩ (.int .i64 0) hne).setCell_other ⟨gB, 2, none⟩ (.int .i64 0) hne)
      have G10 : Hid ((((w9.setCell ⟨gB, 0, none⟩ (.int .i64 0)).setCell ⟨gB, 1, none⟩ (.int .i64 0)).setCell ⟨gB, 2, none⟩ (.int .i64 0)).heap[gB]? = some (.cells #[.int .i64 0, .int .i64 0, .int .i64 0] 28 (0, 0))) := Lib.hid (heap_setCell _ _ 2 _ (heap_setCell _ _ 1 _ (heap_setCell _ _ 0 _ G9.out)))
      have F10 : Hid ((((w9.setCell ⟨gB, 0, none⟩ (.int .i64 0)).setCell ⟨gB, 1, none⟩ (.int .i64 0)).setCell ⟨gB, 2, none⟩ (.int .i64 0)).heap[fB]? = some (.cells #[.int .i64 0, .int .i64 0, .int .i64 0] 28 (0, 0))) := Lib.hid (by
        rw [Below.heap_setCell _ ⟨gB, 2, none⟩ _ fB (by show fB ≠ gB; omega), Below.heap_setCell _ ⟨gB, 1, none⟩ _ fB (by show fB ≠ gB; omega), Below.heap_setCell _ ⟨gB, 0, none⟩ _ fB (by show fB ≠ gB; omega)]
        exact F9.out)
      have hB := ((b9.setCell (p := ⟨gB, 0, none⟩) hwg (.int .i64 0)).setCell (p := ⟨gB, 1, none⟩) hwg (.int .i64 0)).setCell (p := ⟨gB, 2, none⟩) hwg (.int .i64 0)
      have HT := Lib.hid hT
      have HGD := Lib.hid hgood
      have HALL := Lib.hid hall
      have HN := Lib.hid hn
      have hTl : T.length ≤ 65535 := hT.1
      obtain ⟨ua, ucap, rfl, hucap, -⟩ := huv.opened
      clear f0 f1 f2 hlf hd hT hgood hall hn huv hvv F8 G8 HDEC HLEN
      go_upto_region 17 with fail
      generalize ((w9.setCell ⟨gB, 0, none⟩ (.int .i64 0)).setCell ⟨gB, 1, none⟩ (.int .i64 0)).setCell ⟨gB, 2, none⟩ (.int .i64 0) = w10 at *
      have g0 := cell_of_row _ _ 0 _ _ _ G10.out
      have hlg := block_lt G10.out
      clear g1 g2 fg0 fg1 fg2
      go_wp2_with fail
      go_loopw [18] (fun i wr => ∃ k : Nat, k ≤ T.length ∧ i = .int .i64 ((k + 1 : Nat) : Int) ∧ ∃ q, wr = w10.drewN q) (fun i _ => T.length + 2 - (intOf i).toNat)
      case atStart => exact ⟨0, Nat.zero_le _, rfl, 0, rfl⟩
      case round =>
        obtain ⟨k, hk, rfl, qq, rfl⟩ := hrel
        have hbq : Below w10.heap.size w10 (w10.drewN qq) := (Below.refl _ w10).drewN qq
        obtain ⟨J, hJ⟩ : ∃ J, J = k + 1 := ⟨_, rfl⟩
        rw [← hJ]
        by_cases hlt : J < T.length
        · have hlt' : (J : Int) < T.length := by omega
          obtain ⟨a', cap', he, -, hxx⟩ := (HU10.out.below hbq).opened
          cases he
          obtain ⟨ub, uo, rfl, c0, c1, c2⟩ := hxx k (by omega)
          obtain ⟨ub', uo', he, d0, d1, d2⟩ := hxx J hlt
          cases he
          have hord : ltK (T[k]'(by omega)).1 T[J].1 = true := (List.pairwise_iff_getElem.1 HT.out.2) k J (by omega) hlt (by omega)
          obtain ⟨x1, hx1⟩ : ∃ x, x = T[k]'(by omega) := ⟨_, rfl⟩
          obtain ⟨x2, hx2⟩ : ∃ x, x = T[J] := ⟨_, rfl⟩
          rw [← hx1] at c0 c1 c2 hord
          rw [← hx2] at d0 d1 d2 hord
          obtain ⟨⟨t1, k1⟩, v1⟩ := x1
          obtain ⟨⟨t2, k2⟩, v2⟩ := x2
          simp only at c0 c1 c2 d0 d1 d2
          rw [ltK_iff] at hord
          simp only at hord
          have lu := cell_lt c0
          have hJ1 : (J : Int) - 1 = (k : Int) := by omega
          have hkw : IntKind.i64.wrap (k : Int) = (k : Int) := IntWalk.i64_in _ (by omega)
          have hkT : k < T.length := by omega
          have hkT' : (k : Int) < T.length := by omega
          have hk0 : (0 : Int) ≤ k := by omega
          have hJ0 : (0 : Int) ≤ J := by omega
          have HJ := Lib.hid hJ
          clear hxx hx1 hx2 hbq hJ
          obtain ⟨wq, hwq⟩ : ∃ wq, wq = w10.drewN qq := ⟨_, rfl⟩
          rw [← hwq] at c0 c1 c2 d0 d1 d2 lu ⊢
          have HWQ := Lib.hid hwq
          clear hwq
          rcases hord with ho | ⟨ho, hkk⟩
          · have q1 : decide (t2 < t1) = false := decide_eq_false (by omega)
            have q2 : (t1 == t2) = false := by rw [beq_eq_false_iff_ne]; omega
            clear ho
            go_upto_region 22 with fail
            go_quiet (fail)
            go_wp2_with fail
            refine ⟨⟨J, by omega, rfl, qq + nq, by rw [HWQ.out]; exact drewN_add _ _ _⟩, ?_⟩
            simp [intOf]; omega
          · have q1 : decide (t2 < t1) = false := decide_eq_false (by omega)
            have q2 : (t1 == t2) = true := by rw [beq_iff_eq]; omega
            have hbl : Op.bytesLess k1 k2 = true := by rw [bytesLess_eq]; exact decide_eq_true hkk
            clear ho hkk
            go_upto_region 22 with fail
            go_quiet (fail)
            go_wp2_with fail
            refine ⟨⟨J, by omega, rfl, qq + nq, by rw [HWQ.out]; exact drewN_add _ _ _⟩, ?_⟩
            simp [intOf]; omega
        · have hlt' : ¬ (J : Int) < T.length := by omega
          have HUq := Lib.hid (HU10.out.below hbq)
          have HBq := Lib.hid (hB.drewN qq)
          have HGq := Lib.hid (below_at hbq (block_lt G10.out) G10.out)
          have HFq := Lib.hid (below_at hbq (block_lt F10.out) F10.out)
          have hTg : TabGood 65535 T := ⟨hTl, HT.out.2, HGD.out⟩
          have HSM := Lib.hid (laid_same HT.out.2 HGD.out)
          have HPE := Lib.hid (fun W (hW : Below (w10.drewN qq).heap.size (w10.drewN qq) W) => plainEncodeAll_good n _ T W (HUq.out.below hW) (HG.out.new (HBq.out.tn hW)) (fit_put hTg.fit) (by omega) (by rw [HSM.out]; omega) HN.out (by rw [HSM.out]; exact hTg.fit))
          clear hJ hk hTg
          generalize w10.drewN qq = wq at *
          go_wp2_with fail
          refine (HPE.out wq (Below.refl _ _)).mono ?_
          rintro e w11 ⟨rfl, hb11⟩
          rw [HSM.out, HALL.out]
          unfold faultV
          have b11 := HBq.out.tn hb11
          have F11 := Lib.hid (below_at hb11 (block_lt HFq.out) HFq.out)
          have f0 := cell_of_row _ _ 0 _ _ _ F11.out
          have f1 := cell_of_row _ _ 1 _ _ _ F11.out
          have f2 := cell_of_row _ _ 2 _ _ _ F11.out
          have ff0 := frozen_of_row _ _ 0 _ _ F11.out
          have ff1 := frozen_of_row _ _ 1 _ _ F11.out
          have ff2 := frozen_of_row _ _ 2 _ _ F11.out
          have hlf := block_lt F11.out
          have hX : (((w11.setCell ⟨fB, 0, none⟩ (.int .i64 0)).setCell ⟨fB, 1, none⟩ (.int .i64 0)).setCell ⟨fB, 2, none⟩ (.int .i64 0)).heap[fB]? = some (.cells #[.int .i64 0, .int .i64 0, .int .i64 0] 28 (0, 0)) := heap_setCell _ _ 2 _ (heap_setCell _ _ 1 _ (heap_setCell _ _ 0 _ F11.out))
          have hB2 := ((b11.setCell (p := ⟨fB, 0, none⟩) hwf (.int .i64 0)).setCell (p := ⟨fB, 1, none⟩) hwf (.int .i64 0)).setCell (p := ⟨fB, 2, none⟩) hwf (.int .i64 0)
          have hss : (s == s) = true := beq_self_eq_true s
          clear HPE HUq HBq HGq HFq
          go_upto_region 25 with fail
          generalize ((w11.setCell ⟨fB, 0, none⟩ (.int .i64 0)).setCell ⟨fB, 1, none⟩ (.int .i64 0)).setCell ⟨fB, 2, none⟩ (.int .i64 0) = w12 at *
          have y0 := cell_of_row _ _ 0 _ _ _ hX
          have y1 := cell_of_row _ _ 1 _ _ _ hX
          have y2 := cell_of_row _ _ 2 _ _ _ hX
          have hly := block_lt hX
          clear f0 f1 f2 ff0 ff1 ff2 hlf hX
          go_wp2
          go_ret
          exact ⟨rfl, hB2⟩
end Go.Proofs.YtkkfmkhbdoeglaaDoor
