/- The contract of the reference's Encode. No condition. -/
import Derived.Test.YtkkfmkhbdoeglaaDoorRefWrong
import Derived.Test.YtkkfmkhbdoeglaaDoorPlainA
import Derived.Test.YtkkfmkhbdoeglaaDoorEncode
import Derived.Deep.DeepCutAuto
import Derived.Deep.RegionWith
namespace Go.Proofs.YtkkfmkhbdoeglaaDoor
open Go.RowKit

theorem cell_alloc {w : World} {a : Addr} {v : Value} (o : Obj) (h : w.cell? a = some v) : (w.alloc o).cell? a = some v :=
  (World.cell?_of_block (w := w) (heap_alloc_old w o (cell_lt h))).trans h
set_option maxRecDepth 100000 in
set_option maxHeartbeats 1000000 in
theorem refEncode_bad (v : Nat) (sv : Value) (os : List OpB) (w : World) (hs : OpsAt w sv os) (hfit : OpsFit os) (hv64 : v < 18446744073709551616) (f : Nat × Nat) (hw : wrongB v os = some f) :
    Calls Tryd.prog 22 #[.agg #[.int .u64 v, sv]] w fun e w' => e = .returned (.tuple #[.string ⟨[].toArray⟩, .agg #[.int .i64 f.1, .int .i64 f.2]]) ∧ Below w.heap.size w w' := by
  have hs' : OpsAt ((w.alloc (.cells #[.int .u64 (v : Int), sv] 46)).alloc (.cells #[.int .i64 0, .int .i64 0] 53)) sv os := hs.below (((Below.refl _ w).alloc (Nat.le_refl _) _).alloc (by simp) _)
  have HW := Lib.hid hw
  have hk := wrongB_kind hw
  clear hw
  obtain ⟨f1, f2⟩ := f
  simp only at hk ⊢
  have hne : ((f1 : Int) != 0) = true := by rw [bne_iff_ne]; omega
  clear hk
  go_enter Tryd.func22, Tryd.ntmps22
  go_wp2_with fail
  refine (refWrong_any v sv os _ hs' hfit hv64).mono ?_
  rintro e w1 ⟨rfl, hb1⟩
  have HFV : Hid (refFaultV (wrongB v os) = .agg #[.int .i64 f1, .int .i64 f2]) := Lib.hid (by rw [HW.out]; rfl)
  rw [HFV.out]
  have hs1 : w.heap.size + 1 + 1 ≤ w1.heap.size := by simpa using hb1.size
  have R1 := Lib.hid (below_at hb1 (by simp) (heap_new (w.alloc (.cells #[.int .u64 (v : Int), sv] 46)) (.cells #[.int .i64 0, .int .i64 0] 53)))
  simp only [World.size_alloc] at R1
  have r0 : w1.cell? ⟨w.heap.size + 1, 0, none⟩ = some (.int .i64 0) := cell_of_row _ _ 0 _ _ _ R1.out
  have r1 : w1.cell? ⟨w.heap.size + 1, 1, none⟩ = some (.int .i64 0) := cell_of_row _ _ 1 _ _ _ R1.out
  have e0 := frozen_of_row _ _ 0 _ _ R1.out
  have e1 := frozen_of_row _ _ 1 _ _ R1.out
  have hl1 := block_lt R1.out
  have hb : Below w.heap.size w w1 := (((Below.refl _ w).alloc (Nat.le_refl _) _).alloc (by simp) _).trans (hb1.mono (by simp; omega))
  go_wp2
  go_region
  go_wp2
  have x0 : ((w1.setCell ⟨w.heap.size + 1, 0, none⟩ (.int .i64 f1)).setCell ⟨w.heap.size + 1, 1, none⟩ (.int .i64 f2)).cell? ⟨w.heap.size + 1, 0, none⟩ = some (.int .i64 f1) := cell_of_row _ _ 0 _ _ _ (heap_setCell _ _ 1 _ (heap_setCell _ _ 0 _ R1.out))
  have x1 : ((w1.setCell ⟨w.heap.size + 1, 0, none⟩ (.int .i64 f1)).setCell ⟨w.heap.size + 1, 1, none⟩ (.int .i64 f2)).cell? ⟨w.heap.size + 1, 1, none⟩ = some (.int .i64 f2) := cell_of_row _ _ 1 _ _ _ (heap_setCell _ _ 1 _ (heap_setCell _ _ 0 _ R1.out))
  have xx0 := cell_alloc (.cells #[.int .i64 f1, .int .i64 f2] 53) x0
  have xx1 := cell_alloc (.cells #[.int .i64 f1, .int .i64 f2] 53) x1
  refine bodyPost_ret (v := .tuple #[.string ⟨#[]⟩, .agg #[.int .i64 f1, .int .i64 f2]]) (by simp [results, Tryd.results22, go_sem, xx0, xx1]) rfl ⟨rfl, ?_⟩
  exact (((hb.setCell (p := ⟨w.heap.size + 1, 0, none⟩) (by simp) _).setCell (p := ⟨w.heap.size + 1, 1, none⟩) (by simp) _).alloc (by simp [size_setCell]; omega) _).drew
set_option maxRecDepth 100000 in
set_option maxHeartbeats 2000000 in
theorem refEncode_good (v : Nat) (sv : Value) (os : List OpB) (w : World) (hs : OpsAt w sv os) (hfit : OpsFit os) (hw : wrongB v os = none) :
    Calls Tryd.prog 22 #[.agg #[.int .u64 v, sv]] w fun e w' => e = .returned (.tuple #[.string ⟨(encB v os).toArray⟩, .agg #[.int .i64 0, .int .i64 0]]) ∧ Below w.heap.size w w' := by
  have HW := Lib.hid hw
  have hv : isVersionB v = true ∧ 1 ≤ os.length ∧ os.length ≤ 8 ∧ wrongFrom 0 [] os = none := by
    unfold wrongB at hw
    split at hw
    · cases hw
    · split at hw
      · cases hw
      · rename_i h1 h2
        exact ⟨by simpa using h1, by omega, by omega, hw⟩
  clear hw
  obtain ⟨hv, h1, h8, hwf⟩ := hv
  have hv64 := isVersionB_lt hv
  have HWF := Lib.hid hwf
  clear hwf hv
  have HS := Lib.hid hs
  obtain ⟨a, cap, rfl, hcap, -⟩ := hs.opened
  clear hs
  have hs' : OpsAt ((w.alloc (.cells #[.int .u64 (v : Int), .slice a os.length cap] 46)).alloc (.cells #[.int .i64 0, .int .i64 0] 53)) (.slice a os.length cap) os := HS.out.below (((Below.refl _ w).alloc (Nat.le_refl _) _).alloc (by simp) _)
  have HS' := Lib.hid hs'
  clear hs'
  go_enter Tryd.func22, Tryd.ntmps22
  go_wp2_with fail
  refine (refWrong_any v _ os _ HS'.out hfit hv64).mono ?_
  rintro e w1 ⟨rfl, hb1⟩
  rw [HW.out]
  have hs1 : w.heap.size + 1 + 1 ≤ w1.heap.size := by simpa using hb1.size
  have B1 := Lib.hid (below_at hb1 (by simp; omega) (heap_old _ (.cells #[.int .i64 0, .int .i64 0] 53) (heap_new w (.cells #[.int .u64 (v : Int), .slice a os.length cap] 46))))
  have R1 := Lib.hid (below_at hb1 (by simp) (heap_new (w.alloc (.cells #[.int .u64 (v : Int), .slice a os.length cap] 46)) (.cells #[.int .i64 0, .int .i64 0] 53)))
  simp only [World.size_alloc] at R1
  have hb : Below w.heap.size w w1 := (((Below.refl _ w).alloc (Nat.le_refl _) _).alloc (by simp) _).trans (hb1.mono (by simp; omega))
  have c0 : w1.cell? ⟨w.heap.size, 0, none⟩ = some (.int .u64 v) := cell_of_row _ _ 0 _ _ _ B1.out
  have c1 : w1.cell? ⟨w.heap.size, 1, none⟩ = some (.slice a os.length cap) := cell_of_row _ _ 1 _ _ _ B1.out
  have hX : ((UInt8.ofNat os.length).toNat : Int) = IntKind.u8.wrap (os.length : Int) := by
    rw [IntWalk.u8_in _ (by omega)]
    simp; omega
  have hone := fun w => one_at w (UInt8.ofNat os.length)
  rw [hX] at hone
  have h8' : (os.length : Int) ≤ 8 := by omega
  unfold refFaultV
  simp only []
  have hl1 := block_lt B1.out
  have hl1' := block_lt R1.out
  have d0 : w1.cell? ⟨w.heap.size + 1, 0, none⟩ = some (.int .i64 0) := cell_of_row _ _ 0 _ _ _ R1.out
  go_wp2
  generalize hw2 : w1.alloc (.cells #[.int .i64 0, .int .i64 0] 53) = w2
  have b2 : Below w1.heap.size w1 w2 := by rw [← hw2]; exact (Below.refl _ w1).alloc (Nat.le_refl _) _
  have g0 : w2.cell? ⟨w.heap.size, 0, none⟩ = some (.int .u64 v) := (b2.cell (p := ⟨w.heap.size, 0, none⟩) hl1).trans c0
  have g1 : w2.cell? ⟨w.heap.size, 1, none⟩ = some (.slice a os.length cap) := (b2.cell (p := ⟨w.heap.size, 1, none⟩) hl1).trans c1
  have hl2 : w.heap.size + 1 < w2.heap.size := Nat.lt_of_lt_of_le hl1' b2.size
  have hl2' : w.heap.size < w2.heap.size := by omega
  clear hw2 c0 c1 d0
  have hadd : ∀ W, (Op.stringOp .add ⟨(be8 v).toArray⟩ ⟨[UInt8.ofNat os.length].toArray⟩).run Tryd.prog W = .ok (.string ⟨(be8 v ++ [UInt8.ofNat os.length]).toArray⟩) W := fun W => by
    rw [run_string_add_sum W _ _ (by simp [ByteArray.size, be8_length]), ByteArray.mk_append_mk]
  have k0 := (BytesAt.drewN (hone w2) 1).convert
  have k0' := (hone w2).convert
  have k0'' := (BytesAt.drewN (hone w2) 1).convert
  rw [show ∀ w : World, w.drewN 1 = w.drew from fun _ => rfl] at k0
  go_upto_region 4 with fail
  go_cut [5] (fun s wx => s = .string ⟨(be8 v ++ [UInt8.ofNat os.length]).toArray⟩ ∧ Below w1.heap.size w1 wx)
  case first =>
    go_region_with ((first
      | (go_at_call 43; refine (refNumber_any v _ hv64).mono ?_; rintro e w3 ⟨rfl, hb3⟩;
          have d1 : w3.cell? ⟨w.heap.size, 1, none⟩ = some (.slice a os.length cap) := (hb3.cell (p := ⟨w.heap.size, 1, none⟩) (by simp; omega)).trans (by first | exact g1 | go_keep);
          have hs3 := hb3.size; have hl3 : w.heap.size < w3.heap.size := (by simp at hs3; omega);
          have k1 := (hone w3).convert;
          (first | (have k2 := (BytesAt.below (w := (w2.alloc _).drew) (hone w2) hb3).convert) | skip))))
    all_goals (go_wp2_with fail; go_meet; refine ⟨rfl, ?_⟩)
    all_goals first
      | exact ((b2.drew.trans (hb3.mono b2.size)).alloc (Nat.le_trans b2.size hb3.size) _)
      | exact ((b2.drew.trans (hb3.mono b2.size)).alloc (Nat.le_trans b2.size hb3.size) _).drew
      | exact ((b2.alloc b2.size _).drew.trans (hb3.mono (by have := b2.size; simp; omega)))
      | exact ((b2.alloc b2.size _).drew.trans (hb3.mono (by have := b2.size; simp; omega))).drew
  case rest =>
    obtain ⟨rfl, hb3⟩ := hcut
    have hs3 := hb3.size
    clear k0 k0' k0'' hadd hone hX g0 g1
    have HS1 := Lib.hid (HS.out.below hb)
    rw [← encTo_zero]
    go_wp2
    go_loopw [5, 6] (fun s i wr => ∃ k : Nat, k ≤ os.length ∧ i = .int .i64 k ∧ s = .string ⟨(encTo v os k).toArray⟩ ∧ Below w1.heap.size w1 wr) (fun _ i _ => os.length - (intOf i).toNat)
    case atStart => exact ⟨0, by omega, rfl, rfl, hb3⟩
    case round =>
      obtain ⟨k, hk, rfl, rfl, hbr⟩ := hrel
      have hsr := hbr.size
      have BR := Lib.hid (below_at hbr hl1 B1.out)
      have g1 : wr.cell? ⟨w.heap.size, 1, none⟩ = some (.slice a os.length cap) := cell_of_row _ _ 1 _ _ _ BR.out
      have hlr := block_lt BR.out
      by_cases hlt : k < os.length
      · obtain ⟨a', cap', he, hc', hx⟩ := (HS1.out.below hbr).opened
        cases he
        obtain ⟨b, off, rfl, c0, c1, c2, c3⟩ := hx k hlt
        clear hx hc'
        obtain ⟨ks, hks⟩ := wrongFrom_none_at os 0 [] HWF.out k hlt
        obtain ⟨hz1, hz2, hz3, -⟩ := opWrong_zero hks
        obtain ⟨hz4, hz5, hz6⟩ := opBytes_le hks
        have HFT := Lib.hid (encTo_succ v os k hlt)
        have hpl := encTo_le v os k (fun o ho => by
          obtain ⟨j, hj, rfl⟩ := List.mem_iff_getElem.1 ho
          obtain ⟨ks, hks⟩ := wrongFrom_none_at os 0 [] HWF.out j hj
          exact (opBytes_le hks).1)
        obtain ⟨P, hP⟩ : ∃ P, P = encTo v os k := ⟨_, rfl⟩
        have hPl : P.length ≤ 200 := by rw [hP]; omega
        rw [← hP]
        have HP := Lib.hid hP
        clear hP hpl
        obtain ⟨kd, T, KB, VB, ho⟩ : ∃ kd T KB VB, os[k] = ⟨kd, T, KB, VB⟩ := ⟨_, _, _, _, rfl⟩
        rw [ho] at c0 c1 c2 c3 hz1 hz2 hz3 hz5 hz6
        have HO := Lib.hid ho
        clear ho hks hz4
        simp only at hz1 hz2 hz3 hz5 hz6
        have hcl := cell_lt c0
        have hlt' : (k : Int) < os.length := by omega
        have hkd1 : 1 ≤ kd := by omega
        have hkd2 : kd ≤ 2 := by omega
        clear hz1
        obtain ⟨xk, hxk⟩ : ∃ xk : UInt8, (xk.toNat : Int) = kd ∧ xk = UInt8.ofNat kd.toNat := ⟨UInt8.ofNat kd.toNat, by simp; omega, rfl⟩
        obtain ⟨xt, hxt⟩ : ∃ xt : UInt8, (xt.toNat : Int) = T ∧ xt = UInt8.ofNat T.toNat := ⟨UInt8.ofNat T.toNat, by simp; omega, rfl⟩
        have HXK := Lib.hid hxk
        have HXT := Lib.hid hxt
        clear hxk hxt
        have htwo := two_at (wr.alloc (.cells #[.int .i64 kd, .int .i64 T, .string ⟨KB.toArray⟩, .string ⟨VB.toArray⟩] 43)) xk xt kd T HXK.out.1 HXT.out.1
        simp only [World.size_alloc] at htwo
        have HTWO := Lib.hid htwo
        clear htwo
        go_wp2_with (first
          | (refine wpList_string_of rfl (.tmp 44) rfl [xk, xt] (by exact HTWO.out) ?_)
          | (refine wpList_add_str rfl (.tmp 36) (.tmp 45) rfl P [xk, xt] rfl rfl (by simp; omega) ?_)
          | (refine wpList_add_str rfl (.tmp 46) (.tmp 49) rfl (P ++ [xk, xt]) KB rfl rfl (by simp; omega) ?_)
          | (refine wpList_add_str rfl (.tmp 50) (.tmp 52) rfl (P ++ [xk, xt] ++ KB) VB rfl rfl (by simp; omega) ?_))
        go_roundw
        case rel =>
          have e : P ++ xk :: xt :: KB ++ VB = encTo v os (k + 1) := by
            rw [HFT.out, HO.out, HP.out, HXK.out.2, HXT.out.2]
            simp [opBytes]
          exact ⟨k + 1, by omega, by go_num, by rw [ByteArray.mk_append_mk, ← e], (hbr.alloc hsr _).alloc (by simp; omega) _⟩
        case measure => simp [intOf]; omega
      · obtain rfl : k = os.length := by omega
        have RR := Lib.hid (below_at hbr hl1' R1.out)
        have r0 : wr.cell? ⟨w.heap.size + 1, 0, none⟩ = some (.int .i64 0) := cell_of_row _ _ 0 _ _ _ RR.out
        have r1 : wr.cell? ⟨w.heap.size + 1, 1, none⟩ = some (.int .i64 0) := cell_of_row _ _ 1 _ _ _ RR.out
        have e0 := frozen_of_row _ _ 0 _ _ RR.out
        have e1 := frozen_of_row _ _ 1 _ _ RR.out
        have hlr' := block_lt RR.out
        have hge : ¬ (os.length : Int) < os.length := by omega
        go_wp2
        rw [encTo_all]
        refine bodyPost_ret (v := .tuple #[.string ⟨(encB v os).toArray⟩, .agg #[.int .i64 0, .int .i64 0]]) (by simp [results, Tryd.results22, go_sem, r0, r1]) rfl ⟨rfl, ?_⟩
        exact ((hb.trans (hbr.mono (by omega))).setCell (p := ⟨w.heap.size + 1, 0, none⟩) (by simp) _).setCell (p := ⟨w.heap.size + 1, 1, none⟩) (by simp) _
end Go.Proofs.YtkkfmkhbdoeglaaDoor
