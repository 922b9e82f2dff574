/- The walk of package overlaykeep's Longest. No condition. -/
import Derived.Test.YtkkfmkhbdoeglaaDoorLongRel
import Derived.Maps.OwnOps
namespace Go.Proofs.YtkkfmkhbdoeglaaDoor
open Go.RowKit Go.Maps

set_option maxRecDepth 100000 in
set_option maxHeartbeats 4000000 in
theorem Longest_walk (rv : Value) (l : List Int) (addr : Int) (w : World) (hr : IntsAt w rv l) (hll : l.length ≤ maxB) (hbd : ∀ x ∈ l, -9223372036854775808 ≤ x ∧ x ≤ 9223372036854775807) (hg : ShapesVar w) (hge : ErrVar w) (h1 : -9223372036854775808 ≤ addr) (h2 : addr ≤ 9223372036854775807) :
    Calls Tryd.prog 5 #[rv, .int .i64 addr] w fun e w' => e = .returned (.bool true) ∧ Below w.heap.size w w' := by
  obtain ⟨ra, rcap, rfl, hrcap, -⟩ := hr.opened
  have HR := Lib.hid hr
  have hl9 := hll
  unfold maxB at hl9
  obtain ⟨p1, p2⟩ := pickN_bound addr 16777216 (by omega)
  obtain ⟨m, hm⟩ := Int.eq_ofNat_of_zero_le p1
  have hmb : (m : Int) < 16777216 := by omega
  have HM := Lib.hid hm
  have HPK := Lib.hid (fun W => keepPick_any addr 16777216 W h1 h2 (by omega))
  obtain ⟨y1, hy1⟩ : ∃ y : UInt8, (m : Int) / 65536 % 8 = (y.toNat : Int) := ⟨UInt8.ofNat (m / 65536 % 8), by simp; omega⟩
  obtain ⟨y2, hy2⟩ : ∃ y : UInt8, (m : Int) / 256 % 256 = (y.toNat : Int) := ⟨UInt8.ofNat (m / 256), by simp⟩
  obtain ⟨y3, hy3⟩ : ∃ y : UInt8, (m : Int) % 256 = (y.toNat : Int) := ⟨UInt8.ofNat m, by simp⟩
  have hA : be32 10 y1 y2 y3 < 4294967296 := by
    have := y1.toNat_lt; have := y2.toNat_lt; have := y3.toNat_lt
    unfold be32; simp; omega
  have HG := Lib.hid hg
  have HGE := Lib.hid hge
  have hmm := @run_makeMap Tryd.prog
  clear hm p1 p2 hr hg hge
  go_enter Tryd.func5, Tryd.ntmps5
  go_wp2_with fail
  refine (plainFold_any _).mono ?_
  rintro e w1 ⟨rfl, hfold, hb1⟩
  have HF := Lib.hid hfold
  have hs1 := hb1.size
  have hF1 : w.heap.size + 2 < w1.heap.size := cell_lt hfold.cell
  clear hfold
  go_wp2_with fail
  refine (HPK.out _).mono ?_
  rintro e w0 ⟨rfl, rfl⟩
  rw [HM.out]
  go_wp2
  have hal : Below w1.heap.size w1 ((w1.alloc (.cells #[.int .u8 10, .int .u8 y1.toNat, .int .u8 y2.toNat, .int .u8 y3.toNat] 5)).alloc (.map #[] 0)) := ((Below.refl _ w1).alloc (Nat.le_refl _) _).alloc (by simp) _
  have hat := heap_old _ (.map #[] 0) (heap_new w1 (.cells #[.int .u8 10, .int .u8 y1.toNat, .int .u8 y2.toNat, .int .u8 y3.toNat] 5))
  have hu0 := UsedAt.new (w1.alloc (.cells #[.int .u8 10, .int .u8 y1.toNat, .int .u8 y2.toNat, .int .u8 y3.toNat] 5))
  rw [World.size_alloc] at hu0
  have hF2 := HF.out.below hal
  have hb2 := hb1.trans (hal.mono hs1)
  have hsz : ((w1.alloc (.cells #[.int .u8 10, .int .u8 y1.toNat, .int .u8 y2.toNat, .int .u8 y3.toNat] 5)).alloc (.map #[] 0)).heap.size = w1.heap.size + 2 := by simp
  generalize hw2 : (w1.alloc (.cells #[.int .u8 10, .int .u8 y1.toNat, .int .u8 y2.toNat, .int .u8 y3.toNat] 5)).alloc (.map #[] 0) = w2
  rw [hw2] at hal hat hu0 hF2 hb2 hsz
  clear hw2
  have HAT := Lib.hid hat
  have h0 : LongRel w2 (w.heap.size + 2) (w.heap.size + 1) w.heap.size (w1.heap.size + 1) (be32 10 y1 y2 y3) l (.int .i64 (-1)) (.string ⟨#[]⟩) (.int .i64 0) w2 :=
    ⟨0, [], -1, [], [], rfl, Nat.zero_le _, Nat.zero_le _, rfl, by omega, by omega, rfl, by simp, hF2, LongInv.start _, hu0, by simp, Ext.refl _ _⟩
  have HU0 := Lib.hid hu0.lt
  clear hat hu0 hF2
  simp only [hy1, hy2, hy3]
  go_loopw [9, 10, 12] (fun best value i wr => LongRel w2 (w.heap.size + 2) (w.heap.size + 1) w.heap.size (w1.heap.size + 1) (be32 10 y1 y2 y3) l best value i wr) (fun _ _ i _ => 40 - (intOf i).toNat)
  case atStart => exact h0
  case round =>
    clear h0
    obtain ⟨wo, rfl⟩ : ∃ wo : World, wo = wr := ⟨_, rfl⟩
    obtain ⟨k, S, b, v, L, rfl, hkl, hk40, rfl, hbl1, hbl2, rfl, hvl, hF, hI, hU, hL, hx⟩ := hrel
    have hbr : Below w.heap.size w wo := hb2.trans (hx.below hb2.size (fun j hj e => by omega))
    have HFR := Lib.hid hF
    have HIR := Lib.hid hI
    have HUR := Lib.hid hU
    have HLR := Lib.hid hL
    have HX := Lib.hid hx
    have hATr := Lib.hid (hx.at (b := w1.heap.size) (by omega) HAT.out)
    have hsr := hx.size
    clear hF hI hU hL hx
    by_cases hgo : k < l.length ∧ k < 40
    · obtain ⟨hlt, h40⟩ := hgo
      have g1 : (k : Int) < l.length := by omega
      have g2 : (k : Int) < 40 := by omega
      have hb0 := hbd l[k] (List.getElem_mem (by omega))
      obtain ⟨p1, p2⟩ := pickN_bound l[k] 1073741824 (by omega)
      have hpk := fun W => keepPick_any l[k] 1073741824 W hb0.1 hb0.2 (by omega)
      obtain ⟨ra', rcap', he, -, hx⟩ := (HR.out.below hbr).opened
      cases he
      obtain ⟨rb, ro, rfl, c0⟩ := hx k hlt
      generalize l[k] = xk at *
      obtain ⟨c, hc⟩ := Int.eq_ofNat_of_zero_le p1
      rw [hc] at p2
      rw [hc] at hpk
      have HPC := Lib.hid hpk
      clear hpk hc p1 hb0 hx
      obtain ⟨n, hn⟩ : ∃ n : Nat, n = c % 33 := ⟨_, rfl⟩
      have hn32 : n ≤ 32 := by omega
      have hn1 : (c : Int) % 33 = (n : Int) := by omega
      have hn2 : (n : Int) % 256 = (n : Int) := by omega
      obtain ⟨z1, hz1⟩ : ∃ y : UInt8, (c : Int) / 33 % 8 = (y.toNat : Int) := ⟨UInt8.ofNat (c / 33 % 8), by simp; omega⟩
      obtain ⟨z2, hz2⟩ : ∃ y : UInt8, (c : Int) / 264 % 256 = (y.toNat : Int) := ⟨UInt8.ofNat (c / 264), by simp⟩
      obtain ⟨z3, hz3⟩ : ∃ y : UInt8, (c : Int) / 67584 % 256 = (y.toNat : Int) := ⟨UInt8.ofNat (c / 67584), by simp⟩
      clear hn
      have gc : (0 : Int) ≤ c := by omega
      go_wp2_with fail
      refine (HPC.out _).mono ?_
      rintro e w3 ⟨rfl, rfl⟩
      go_wp2
      rw [hn1]
      have PC := heap_new wo (.cells #[.int .u8 10, .int .u8 z1.toNat, .int .u8 z2.toNat, .int .u8 z3.toNat, .int .u8 (n : Int)] 5)
      have b3 : Below wo.heap.size wo (wo.alloc (.cells #[.int .u8 10, .int .u8 z1.toNat, .int .u8 z2.toNat, .int .u8 z3.toNat, .int .u8 (n : Int)] 5)) := (Below.refl _ wo).alloc (Nat.le_refl _) _
      have hs3 : (wo.alloc (.cells #[.int .u8 10, .int .u8 z1.toNat, .int .u8 z2.toNat, .int .u8 z3.toNat, .int .u8 (n : Int)] 5)).heap.size = wo.heap.size + 1 := by simp
      generalize hw3 : wo.alloc (.cells #[.int .u8 10, .int .u8 z1.toNat, .int .u8 z2.toNat, .int .u8 z3.toNat, .int .u8 (n : Int)] 5) = w3
      rw [hw3] at PC b3 hs3
      clear hw3 hz1 hz2 hz3 hn1 c0 g1
      have h3 : MaskRel w3 wo.heap.size n (be32 10 z1 z2 z3) (.int .i64 (n : Int)) w3 := ⟨n, 10, z1, z2, z3, Nat.le_refl _, hn32, rfl, PC, (maskN_start _ _).symm, Ext.refl _ _⟩
      have HN0 : Hid (be32 10 z1 z2 z3 < 4294967296) := Lib.hid (by
        have := z1.toNat_lt; have := z2.toNat_lt; have := z3.toNat_lt
        unfold be32; simp; omega)
      generalize be32 10 z1 z2 z3 = N0 at *
      clear PC
      go_loopw [16] (fun i wi => MaskRel w3 wo.heap.size n N0 i wi) (fun i _ => 32 - (intOf i).toNat)
      case atStart => exact h3
      case round =>
        clear h3
        obtain ⟨kk, a1, a2, a3, a4, hk1, hk2, rfl, hP, hbe, hxi⟩ := hrel
        obtain ⟨wi, rfl⟩ : ∃ w : World, w = wr := ⟨_, rfl⟩
        have HP := Lib.hid hP
        have hlP := block_lt hP
        have HXI := Lib.hid hxi
        have HBE := Lib.hid hbe
        clear hbe hxi
        by_cases hk : kk < 32
        · have gk : (kk : Int) < 32 := by omega
          have gk0 : (0 : Int) ≤ kk := by omega
          obtain ⟨j, hj8, hkj⟩ : ∃ j, j < 8 ∧ (kk = 0 + j ∨ kk = 8 + j ∨ kk = 16 + j ∨ kk = 24 + j) := ⟨kk % 8, by omega, by omega⟩
          have q2 : (kk : Int) % 8 = (j : Int) := by omega
          have q0 : wi.heap[wo.heap.size]? = wi.heap[wo.heap.size]? := rfl
          rcases hkj with hkj | hkj | hkj | hkj
          · have q1 : (kk : Int) / 8 = 0 := by omega
            obtain ⟨z, hz, hzs⟩ := u8_andNot a1 j hj8
            have r0 := cell_of_row _ _ 0 _ _ _ hP
            have f0 := frozen_of_row _ _ 0 _ _ hP
            have HJ := Lib.hid hkj
            have HZ := Lib.hid hzs
            have HM1 := Lib.hid (fun (zz : Int) => heap_setCell wi _ 0 (.int .u8 zz) hP)
            clear hP hkj hzs
            go_wp2
            go_region
            go_wp2
            refine ⟨MaskRel.step hk1 hk HBE.out HXI.out (HM1.out _) (clear0 a1 a2 a3 a4 z kk j HJ.out hj8 HZ.out), ?_⟩
            simp [intOf]
            omega
          · have q1 : (kk : Int) / 8 = 1 := by omega
            obtain ⟨z, hz, hzs⟩ := u8_andNot a2 j hj8
            have r0 := cell_of_row _ _ 1 _ _ _ hP
            have f0 := frozen_of_row _ _ 1 _ _ hP
            have HJ := Lib.hid hkj
            have HZ := Lib.hid hzs
            have HM1 := Lib.hid (fun (zz : Int) => heap_setCell wi _ 1 (.int .u8 zz) hP)
            clear hP hkj hzs
            go_wp2
            go_region
            go_wp2
            refine ⟨MaskRel.step hk1 hk HBE.out HXI.out (HM1.out _) (clear1 a1 a2 a3 a4 z kk j HJ.out hj8 HZ.out), ?_⟩
            simp [intOf]
            omega
          · have q1 : (kk : Int) / 8 = 2 := by omega
            obtain ⟨z, hz, hzs⟩ := u8_andNot a3 j hj8
            have r0 := cell_of_row _ _ 2 _ _ _ hP
            have f0 := frozen_of_row _ _ 2 _ _ hP
            have HJ := Lib.hid hkj
            have HZ := Lib.hid hzs
            have HM1 := Lib.hid (fun (zz : Int) => heap_setCell wi _ 2 (.int .u8 zz) hP)
            clear hP hkj hzs
            go_wp2
            go_region
            go_wp2
            refine ⟨MaskRel.step hk1 hk HBE.out HXI.out (HM1.out _) (clear2 a1 a2 a3 a4 z kk j HJ.out hj8 HZ.out), ?_⟩
            simp [intOf]
            omega
          · have q1 : (kk : Int) / 8 = 3 := by omega
            obtain ⟨z, hz, hzs⟩ := u8_andNot a4 j hj8
            have r0 := cell_of_row _ _ 3 _ _ _ hP
            have f0 := frozen_of_row _ _ 3 _ _ hP
            have HJ := Lib.hid hkj
            have HZ := Lib.hid hzs
            have HM1 := Lib.hid (fun (zz : Int) => heap_setCell wi _ 3 (.int .u8 zz) hP)
            clear hP hkj hzs
            go_wp2
            go_region
            go_wp2
            refine ⟨MaskRel.step hk1 hk HBE.out HXI.out (HM1.out _) (clear3 a1 a2 a3 a4 z kk j HJ.out hj8 HZ.out), ?_⟩
            simp [intOf]
            omega
        · have gk : ¬ (kk : Int) < 32 := by omega
          obtain rfl : kk = 32 := by omega
          have hbe := HBE.out
          rw [maskN_end] at hbe
          have hkey : keyA (cutN N0 n) n = [a1, a2, a3, a4, UInt8.ofNat n] := by
            unfold keyA
            rw [← hbe, be4_of]
            rfl
          have hNb : cutN N0 n < 4294967296 := Nat.lt_of_le_of_lt (cutN_le N0 n) HN0.out
          have hNc := cutN_cut N0 n
          generalize cutN N0 n = N at *
          have hpb : BytesAt wi (.slice (some ⟨wo.heap.size, 0, none⟩) 5 5) (keyA N n) := rowAt hP (keyA N n) 5 (by rw [hkey]; rfl) (by rw [hkey]; simp [u8s]; omega)
          have bw : Below wo.heap.size wo wi := b3.trans (HXI.out.below (by omega) (fun j hj e => by omega))
          have hul : w1.heap.size + 1 < wo.heap.size := by have := HU0.out; omega
          have HUI := Lib.hid (HUR.out.old (bw.block _ hul))
          have HFI := Lib.hid (HFR.out.below bw)
          have HKEY := Lib.hid hkey
          obtain ⟨KB, hKB⟩ : ∃ KB, KB = keyA N n := ⟨_, rfl⟩
          rw [← hKB] at hpb
          have HKB := Lib.hid hKB
          have HPB := Lib.hid hpb
          have hkl : KB.length ≤ 5 := by rw [hKB, hkey]; simp
          have HBN := Lib.hid hbe
          clear hkey hKB hpb hP hbe
          have HNC := Lib.hid hNc
          clear hNc
          obtain ⟨D, hown, hDm, hval⟩ := HUI.out
          have HV := Lib.hid hval
          have hkk := WideMaps.keyOf_string_mk (P := Tryd.prog) Tryd.underlying9 (s := ⟨KB.toArray⟩) (by simp [ByteArray.size, maxLen]; omega)
          have HKK := Lib.hid hkk
          clear hval hkk
          by_cases hin : KB ∈ L
          · go_wp2_with (first | (at_lookup; refine wpList_lookup_own_int _ rfl _ _ 37 rfl 9 3 .i64 (string_keyed Tryd.underlying9) Tryd.underlying37 Tryd.underlying3 (by kernel_rfl) (w1.heap.size + 1) _ _ rfl hown _ _ rfl HKK.out ?_; intro cc hat hwc; have hcc := (HV.out KB).symm.trans hat; rw [if_pos hin] at hcc; obtain rfl : cc = 1 := by (injection hcc with e1; injection e1 with e2 e3; exact e3.symm)) | (refine wpList_string_of rfl (.tmp 93) rfl KB (by exact HPB.out) ?_))
            go_roundw
            case rel =>
              first
                | exact LongRel.same hlt h40 hbl1 hbl2 hvl HFR.out HIR.out HUR.out HLR.out HX.out bw
                | ((repeat apply Exists.intro); exact ⟨LongRel.same hlt h40 hbl1 hbl2 hvl HFR.out HIR.out HUR.out HLR.out HX.out bw, rfl⟩)
            case measure => simp [intOf]; omega
          · have hk256 : (k : Int) % 256 = (k : Int) := by omega
            have HLIT := Lib.hid (fun W => litAt W [1, UInt8.ofNat k, 2, 3] #[.int .u8 1, .int .u8 (k : Int), .int .u8 2, .int .u8 3] 4 rfl (by simp [u8s]; omega) (by decide))
            have hPne : wo.heap.size ≠ w1.heap.size + 1 := by omega
            go_wp2_with (first
              | (at_lookup; refine wpList_lookup_own_int _ rfl _ _ 37 rfl 9 3 .i64 (string_keyed Tryd.underlying9) Tryd.underlying37 Tryd.underlying3 (by kernel_rfl) (w1.heap.size + 1) _ _ rfl hown _ _ rfl HKK.out ?_; intro cc hat hwc; have hcc := (HV.out KB).symm.trans hat; rw [if_neg hin] at hcc; obtain rfl : cc = 0 := by (injection hcc with e1; injection e1 with e2 e3; exact e3.symm))
              | (at_mapUpdate; refine wpList_mapUpdate_own _ rfl _ _ _ 37 rfl 9 3 (string_keyed Tryd.underlying9) Tryd.underlying37 _ (w1.heap.size + 1) _ _ rfl hown (by unfold maxLen; omega) _ _ _ rfl rfl HKK.out _ [] (plainElem_int Tryd.underlying3 (by decide)) ?_; intro w4 hown4 hg4; have HP4 := Lib.hid ((hg4.block wo.heap.size hlP (fun e => hPne (Option.some.inj e))).trans HP.out); have HPB4 := Lib.hid (fun o => rowAt (heap_old w4 o HP4.out) (keyA N n) 5 (by rw [HKEY.out]; rfl) (by rw [HKEY.out]; simp [u8s]; omega)))
              | (refine wpList_string_of rfl (.tmp 93) rfl KB (by exact HPB.out) ?_)
              | (refine wpList_string_of rfl (.tmp 98) rfl KB (by exact HPB.out) ?_)
              | (refine wpList_string_of rfl (.tmp 102) rfl [1, UInt8.ofNat k, 2, 3] (by exact HLIT.out _) ?_)
              | (refine wpList_string_of rfl (.tmp 105) rfl (keyA N n) (by exact HPB4.out _) ?_))
            have hs4 : wi.heap.size ≤ w4.heap.size := hg4.size
            have hsw := bw.size
            have XE4 : Ext (fun j => j = w.heap.size ∨ j = w1.heap.size + 1) w2 w4 := (HX.out.past bw).grow hg4 (.inl (.inr rfl))
            have bw4 : Below w.heap.size w w4 := hb2.trans (XE4.below hb2.size (fun j hj e => by omega))
            have HF4 : FoldAt w4 (w.heap.size + 2) (w.heap.size + 1) w.heap.size S := HFI.out.other ((Ext.refl _ wi).grow hg4 (.inl rfl)) (by omega) (by omega) (by omega)
            have HU4 : UsedAt w4 (w1.heap.size + 1) (k + 1) (KB :: L) := ⟨_, hown4, hDm.put _ _, put_used hDm HV.out KB⟩
            have hAT4 : w4.heap[w1.heap.size]? = _ := (hg4.block w1.heap.size (by omega) (fun e => by have := Option.some.inj e; omega)).trans (below_at bw (by omega) hATr.out)
            have hal6 : Below w4.heap.size w4 ((w4.alloc (.cells #[.int .u8 1, .int .u8 (k : Int), .int .u8 2, .int .u8 3] 5)).alloc (.cells #[.int .i64 1, .int .i64 1, .string ⟨(keyA N n).toArray⟩, .string ⟨[1, UInt8.ofNat k, 2, 3].toArray⟩] 43)) := ((Below.refl _ w4).alloc (Nat.le_refl _) _).alloc (by simp) _
            have hso := oneOp_at (w4.alloc (.cells #[.int .u8 1, .int .u8 (k : Int), .int .u8 2, .int .u8 3] 5)) ⟨1, 1, keyA N n, [1, UInt8.ofNat k, 2, 3]⟩
            rw [World.size_alloc] at hso
            generalize hw6 : (w4.alloc (.cells #[.int .u8 1, .int .u8 (k : Int), .int .u8 2, .int .u8 3] 5)).alloc (.cells #[.int .i64 1, .int .i64 1, .string ⟨(keyA N n).toArray⟩, .string ⟨[1, UInt8.ofNat k, 2, 3].toArray⟩] 43) = w6
            rw [hw6] at hal6 hso
            clear hw6
            have bw6 : Below w.heap.size w w6 := bw4.trans (hal6.mono bw4.size)
            refine (apply_route _ _ _ S _ hn32 hNb HNC.out 1 (UInt8.ofNat k) 2 3 (by unfold be32; simp) w6 (HF4.below hal6) hso (HG.out.new bw6) (HGE.out.new bw6) HGE.out.1).mono ?_
            rintro e w7 ⟨rfl, ht7, hx7⟩
            have hs6 := hal6.size
            have HF7 := Lib.hid ((HF4.below hal6).step hx7 ht7)
            have HP7 := Lib.hid (hx7.at (b := wo.heap.size) (by omega) (below_at hal6 (by omega) HP4.out))
            have HAT7 := Lib.hid (hx7.at (b := w1.heap.size) (by omega) (below_at hal6 (by omega) hAT4))
            have HU7 := Lib.hid ((HU4.old (hal6.block _ (by omega))).old (hx7.block _ (by omega) (by omega)))
            have XE7 := Lib.hid ((XE4.past hal6).trans' hx7 (fun i e => .inl (.inl e)))
            have hs7 := hx7.size
            clear ht7 hx7 hso hAT4 HU4 HF4 XE4 hown4 hown hat hwc hg4 hal6
            go_wp2
            have hal8 : Below w7.heap.size w7 (w7.alloc (.cells #[.int .i64 0, .int .i64 0, .int .i64 0] 28)) := (Below.refl _ w7).alloc (Nat.le_refl _) _
            generalize hw8 : w7.alloc (.cells #[.int .i64 0, .int .i64 0, .int .i64 0] 28) = w8
            rw [hw8] at hal8
            clear hw8
            have HF8 := Lib.hid (HF7.out.below hal8)
            have HP8 := Lib.hid (below_at hal8 (block_lt HP7.out) HP7.out)
            have HAT8 := Lib.hid (below_at hal8 (block_lt HAT7.out) HAT7.out)
            have HU8 : Hid (UsedAt w8 (w1.heap.size + 1) (k + 1) (keyA N n :: L)) := Lib.hid (by rw [← HKB.out]; exact HU7.out.old (hal8.block _ HU7.out.lt))
            have XE8 := Lib.hid (XE7.out.past hal8)
            have HIN : Hid (keyA N n ∉ L) := Lib.hid (by rw [← HKB.out]; exact hin)
            clear hal8 hin
            go_loopw [19, 20] (fun hv i wi => HoldRel w8 (be32 10 y1 y2 y3) N n hv i wi) (fun _ i _ => n - (intOf i).toNat)
            case atStart => exact HoldRel.start hA hNb
            case round =>
              obtain ⟨kk, hk, rfl, rfl, q, rfl⟩ := hrel
              by_cases hkn : kk < n
              · have gk : (kk : Int) < n := by omega
                obtain ⟨yp, hyp, hyp2⟩ := bit_at a1 a2 a3 a4 [UInt8.ofNat n] kk (by omega)
                obtain ⟨ya, hya, hya2⟩ := bit_at 10 y1 y2 y3 [] kk (by omega)
                rw [HBN.out] at hyp2
                obtain ⟨k8, h8⟩ : ∃ k8, k8 = kk / 8 := ⟨_, rfl⟩
                obtain ⟨j, hj⟩ : ∃ j, j = kk % 8 := ⟨_, rfl⟩
                have e8 : (kk : Int) / 8 = (k8 : Int) := by omega
                have ej : (kk : Int) % 8 = (j : Int) := by omega
                have hj8 : j < 8 := by omega
                have hk8 : k8 < 4 := by omega
                rw [← h8] at hyp hya
                rw [← hj] at hyp2 hya2
                have cp : w8.cell? ⟨wo.heap.size, k8, none⟩ = some (.int .u8 (yp.toNat : Int)) := by
                  rw [cell_of_row _ _ _ _ _ _ HP8.out]
                  have : k8 = 0 ∨ k8 = 1 ∨ k8 = 2 ∨ k8 = 3 := by omega
                  rcases this with rfl | rfl | rfl | rfl <;> (simp at hyp; subst hyp; rfl)
                have ca : w8.cell? ⟨w1.heap.size, k8, none⟩ = some (.int .u8 (ya.toNat : Int)) := by
                  rw [cell_of_row _ _ _ _ _ _ HAT8.out]
                  have : k8 = 0 ∨ k8 = 1 ∨ k8 = 2 ∨ k8 = 3 := by omega
                  rcases this with rfl | rfl | rfl | rfl <;> (simp at hya; subst hya; rfl)
                have hh := u8_holds yp ya j hj8
                have hb8 : ∃ t, t = decide (yp.toNat / 2 ^ (7 - j) % 2 = ya.toNat / 2 ^ (7 - j) % 2) := ⟨_, rfl⟩
                obtain ⟨t, ht⟩ := hb8
                rw [← ht] at hh
                rw [hyp2, hya2] at ht
                have HT := Lib.hid ht
                have lp := cell_lt cp
                have la := cell_lt ca
                clear ht hyp hya hyp2 hya2 h8 hj
                cases hd : decide (topN (be32 10 y1 y2 y3) kk = topN N kk) with
                | false =>
                  have HD := Lib.hid hd
                  clear hd
                  go_wp2
                  go_quiet (fail)
                  go_wp2
                  exact ⟨HoldRel.step hkn hn32 (by rw [HD.out]; rfl), by simp [intOf]; omega⟩
                | true =>
                  have HD := Lib.hid hd
                  clear hd
                  go_wp2
                  go_quiet (fail)
                  go_wp2
                  exact ⟨HoldRel.step hkn hn32 (by rw [HD.out, ← HT.out]; rfl), by simp [intOf]; omega⟩
              · obtain rfl : kk = n := by omega
                have gk : ¬ (kk : Int) < kk := by omega
                have bq : Below w8.heap.size w8 (w8.drewN q) := (Below.refl _ w8).drewN q
                have hce := cut_eq (A := be32 10 y1 y2 y3) HNC.out
                cases hd : decide (topN (be32 10 y1 y2 y3) kk = topN N kk) with
                | false =>
                  have HCE : Hid (¬ (cutN (be32 10 y1 y2 y3) kk = N ∧ b < kk)) := Lib.hid (fun h => (of_decide_eq_false hd) (hce.1 h.1))
                  clear hd hce
                  go_wp2
                  exact ⟨LongRel.next hlt h40 hbl1 hbl2 hvl (by simp) hA hn32 hNb HIN.out (FoldAt.below (HF8.out) bq) HIR.out (HU8.out.old rfl) HLR.out (XE8.out.drewN q) (by rw [if_neg HCE.out]) (by rw [if_neg HCE.out]), by simp [intOf]; omega⟩
                | true =>
                  by_cases hbk : b < (kk : Int)
                  · have HCE : Hid (cutN (be32 10 y1 y2 y3) kk = N ∧ b < kk) := Lib.hid ⟨hce.2 (of_decide_eq_true hd), hbk⟩
                    clear hd hce
                    go_wp2
                    exact ⟨LongRel.next hlt h40 hbl1 hbl2 hvl (by simp) hA hn32 hNb HIN.out (FoldAt.below (HF8.out) bq) HIR.out (HU8.out.old rfl) HLR.out (XE8.out.drewN q) (by rw [if_pos HCE.out]) (by rw [if_pos HCE.out]), by simp [intOf]; omega⟩
                  · have HCE : Hid (¬ (cutN (be32 10 y1 y2 y3) kk = N ∧ b < kk)) := Lib.hid (fun h => hbk h.2)
                    clear hd hce
                    go_wp2
                    exact ⟨LongRel.next hlt h40 hbl1 hbl2 hvl (by simp) hA hn32 hNb HIN.out (FoldAt.below (HF8.out) bq) HIR.out (HU8.out.old rfl) HLR.out (XE8.out.drewN q) (by rw [if_neg HCE.out]) (by rw [if_neg HCE.out]), by simp [intOf]; omega⟩
    · have HRT := Lib.hid (fun W hW => long_route (w.heap.size + 2) (w.heap.size + 1) w.heap.size 10 y1 y2 y3 W hW HIR.out hbl1 hbl2 hA)
      have HPA := Lib.hid (rowAt hATr.out [10, y1, y2, y3] 4 rfl rfl)
      have hor : (¬ (k : Int) < l.length) ∨ ((k : Int) < l.length ∧ ¬ (k : Int) < 40) := by omega
      have hbo : (0 ≤ b) ∨ (¬ 0 ≤ b) := by omega
      have hbb : ∀ t, t = decide (0 ≤ b) → (decide (0 ≤ b) = t) := fun t h => h.symm
      clear hgo hbb
      rcases hor with g1 | ⟨g1, g2⟩ <;> rcases hbo with hb0 | hb0 <;>
      · go_wp2_with (refine wpList_string_of rfl (.tmp 150) rfl [10, y1, y2, y3] (by exact HPA.out) ?_)
        refine (HRT.out _ (by exact HFR.out)).mono ?_
        rintro e w9 ⟨rfl, hb9⟩
        have hb10 : Below w.heap.size w w9 := hbr.trans (hb9.mono hbr.size)
        go_wp2
        go_ret
        exact ⟨rfl, hb10⟩
end Go.Proofs.YtkkfmkhbdoeglaaDoor
