/- A part of what is proved here: lemmas and contracts of single functions. No condition but those that each names. -/
import Derived.Test.YtkkfmkhbdoeglabGreatDoorG31
import Derived.Test.YtkkfmkhbdoeglabGreatDoorG43
import Derived.Test.YtkkfmkhbdoeglabGreatDoorG45
import Derived.Test.YtkkfmkhbdoeglabGreatDoorG46
namespace Go.Proofs.YtkkfmkhbdoeglabGreatDoor
open Go.RowKit
/-- what the law expects: the entries, what is done, the fault -/
structure RecFacts (l : List Int) (old T WL : List E) (DL : List (List UInt8)) (fk fp : Int) : Prop where
  one : (recB l old T (-1) false).S = WL ∧ (recB l old T (-1) false).log = DL
  two : ∀ n : Nat, n ≤ DL.length → (recB l old T n false).S = aftB (thereB (roomN l) old) WL n ∧ (recB l old T n false).log = DL.take n
  three : ∀ n : Nat, n ≤ DL.length → (recB l old T n true).S = WL ∧ (recB l old T n true).log = DL
  flt : recFault T (roomN l) = (fk, fp)
  wl : WL.length ≤ 10000
  dl : DL.length ≤ 10000
theorem recFacts_none {l : List Int} {old T : List E} (hT : SortedE T) (hk : ∀ x ∈ T, inTab x.1) (ho : overS T (roomN l) = none) (hl : T.length ≤ 2400) : RecFacts l old T T (doneT (thereB (roomN l) old) T) 0 0 := by
  have hok := thereB_ok (roomN l) (fun t => (roomN_bound l t).1) (fun _ => True) old fun _ _ => trivial
  refine ⟨rec_all l old T hT hk ho, fun n hn => rec_stop l old T n hT hk ho hn, fun n hn => rec_again l old T n hT hk ho hn, by unfold recFault; rw [ho], by omega, ?_⟩
  have h1 := doneT_len (thereB (roomN l) old) T
  have h2 := hok.len
  omega
theorem recFacts_some {l : List Int} {old T : List E} {t : Nat} (ho : overS T (roomN l) = some t) : RecFacts l old T (thereB (roomN l) old) [] 10 (t : Int) := by
  have hok := thereB_ok (roomN l) (fun t => (roomN_bound l t).1) (fun _ => True) old fun _ _ => trivial
  have h2 := hok.len
  refine ⟨rec_full l old T t ho (-1) false, fun n hn => ?_, fun n hn => ?_, by unfold recFault; rw [ho], by omega, by simp⟩
  · obtain rfl : n = 0 := Nat.le_zero.1 hn
    obtain ⟨h1, h2⟩ := rec_full l old T t ho ((0 : Nat) : Int) false
    exact ⟨by rw [h1, after_zero], by rw [h2]; rfl⟩
  · exact rec_full l old T t ho _ true
theorem SliceAt.takeT {w : World} {a : Option Addr} {n cap : Nat} {l : List (List UInt8)} (h : SliceAt w (.slice a n cap) 1 l.length (strsV l)) (k : Nat) (hk : k ≤ l.length) : SliceAt w (.slice a k cap) 1 (l.take k).length (strsV (l.take k)) := by
  obtain ⟨-, a', cap', he, hc, hx⟩ := h
  cases he
  have htl : (l.take k).length = k := by rw [List.length_take]; omega
  refine ⟨by rw [strsV_length, Nat.mul_one], a, cap, by rw [htl], by omega, fun i hi => ?_⟩
  have hi' : i < k := by rw [strsV_length, htl] at hi; exact hi
  obtain ⟨b, off, rfl, hcell⟩ := hx i (by rw [strsV_length]; omega)
  refine ⟨b, off, rfl, ?_⟩
  rw [hcell]
  simp [strsV]
theorem SliceAt.setIntT {W : World} {v : Value} {l : List (List UInt8)} {b i : Nat} {a0 a1 a2 : Int} {T : TypeId} {fz : Nat × Nat} (h : SliceAt W v 1 l.length (strsV l)) (hr : W.heap[b]? = some (.cells #[.int .i64 a0, .int .i64 a1, .int .i64 a2] T fz)) (u : Value) : SliceAt (W.setCell ⟨b, i, none⟩ u) v 1 l.length (strsV l) := by
  obtain ⟨h1, a, cap, rfl, hc, hx⟩ := h
  refine ⟨h1, a, cap, rfl, hc, fun j hj => ?_⟩
  obtain ⟨b', off, rfl, hcell⟩ := hx j hj
  have hne : b' ≠ b := fun e => by
    have hs := hcell
    rw [e] at hs
    unfold World.cell? at hs
    simp only [hr] at hs
    have hi : ∀ (k : Nat) (z : Value), (#[Value.int .i64 a0, .int .i64 a1, .int .i64 a2] : Array Value)[k]? = some z → ∃ n, z = .int .i64 n := fun k z hk => by
      match k, hk with
      | 0, hk => exact ⟨_, (Option.some.inj hk).symm⟩
      | 1, hk => exact ⟨_, (Option.some.inj hk).symm⟩
      | 2, hk => exact ⟨_, (Option.some.inj hk).symm⟩
      | k + 3, hk => simp at hk
    obtain ⟨n, hn⟩ := hi _ _ hs
    obtain ⟨z, -, e⟩ := List.mem_map.1 (List.getElem_mem hj : (strsV l)[j] ∈ strsV l)
    rw [← e] at hn
    cases hn
  exact ⟨b', off, rfl, by rw [World.cell?_setCell_other (h := by simp [hne])]; exact hcell⟩
set_option maxRecDepth 100000 in
set_option maxHeartbeats 4000000 in
theorem Reconciles_walk (rv ov tv : Value) (l : List Int) (old want : List E) (stop : Int) (w : World) (hr : SliceAt w rv 1 l.length (l.map fun i => .int .i64 i)) (hm : l.length ≤ maxB) (ho : EntsAt w ov old) (hol : old.length ≤ 3518437208883) (hofit : ∀ x ∈ old, OpsFit [putOp x]) (ht : EntsAt w tv want) (htl : want.length ≤ 3518437208883) (hfit : ∀ x ∈ want, OpsFit [putOp x])
    (hge : ErrVar w) (hg : ShapesVar w) (lo : -9223372036854775808 ≤ stop) (hi : stop ≤ 9223372036854775807) :
    Calls Tryz.prog 3 #[rv, ov, tv, .int .i64 stop] w fun e w' => e = .returned (.bool true) ∧ Below w.heap.size w w' := by
  have hok : ∀ x ∈ old, x.1.2.length ≤ maxB ∧ x.2.length ≤ maxB := fun x hx => hofit x hx (putOp x) (by simp)
  have htk : ∀ x ∈ want.take 300, OpsFit [putOp x] := fun x hx => hfit x (List.mem_of_mem_take hx)
  have htl3 : (want.take 300).length ≤ 300 := by rw [List.length_take]; omega
  have hTG := laid_good (want.take 300)
  have HTG := Lib.hid hTG
  have HOK := Lib.hid (thereB_ok (roomN l) (fun t => (roomN_bound l t).1) (fun y => y.1.2.length ≤ maxB ∧ y.2.length ≤ maxB) old hok)
  have HLI := Lib.hid (fun W (hW : Below w.heap.size w W) => limited_any tv want W (ht.below hW) (by omega))
  have HREC := Lib.hid (fun (v' : Value) W (hW : Below w.heap.size w W) (hv' : EntsAt W v' (want.take 300)) (st : Int) (again : Bool) (hst : st ≤ 9223372036854775807) => reconciled_any l old (want.take 300) st again rv ov v' W (SliceAt.below hr hW) (ho.below hW) hv' (hg.new hW) (hge.new hW) htk htl3 hol hok hst)
  have HRO := Lib.hid (lawRooms_any rv l w hr hm)
  have HPR := Lib.hid (fun W (hW : Below w.heap.size w W) => proper_any tv want W (ht.below hW) hfit (by omega))
  have HTH := Lib.hid (fun rv' W (hW : Below w.heap.size w W) hrr => lawThere_any ov rv' old l W (ho.below hW) hol hrr)
  have HTE : Hid (∀ y ∈ laidS (want.take 300), inTab y.1 ∧ y.1.2.length ≤ maxB ∧ y.2.length ≤ maxB) := Lib.hid (fun y hy => by
    obtain ⟨g0, g2, g3, g4⟩ := hTG.good y hy
    have l1 := isKeyB_length g3
    have l2 := isValueB_length g0 g2 g4
    have k6 : keyLen y.1.1 ≤ 6 := by
      unfold keyLen
      repeat' split
      all_goals omega
    have k4 : valLen y.1.1 ≤ 4 := by
      unfold valLen
      repeat' split
      all_goals omega
    refine ⟨⟨g0, g2⟩, ?_⟩
    unfold maxB
    omega)
  clear hr ho ht hok hofit hfit htk hTG hg hge
  go_enter Tryz.func3, Tryz.ntmps3
  go_wp2_with fail
  refine HRO.out.mono ?_
  rintro e w1 ⟨rmv, rfl, hrm, hb1⟩
  have HRM := Lib.hid hrm
  have HB1 := Lib.hid hb1
  clear hrm HRO
  go_wp2_with fail
  refine (HPR.out w1 HB1.out).mono ?_
  rintro e w2 ⟨⟨wv, rfl, hwv⟩, hb2⟩
  have HB2 := Lib.hid (HB1.out.tn hb2)
  have HW2 := Lib.hid hwv
  have HRM2 := Lib.hid (HRM.out.below hb2)
  clear hwv hb1 hb2 HPR
  go_wp2_with fail
  refine (HTH.out rmv w2 HB2.out HRM2.out).mono ?_
  rintro e w3 ⟨hv, rfl, hhv, hb3⟩
  have HB3 := Lib.hid (HB2.out.tn hb3)
  have HH3 := Lib.hid hhv
  have HW3 := Lib.hid (HW2.out.below hb3)
  have HRM3 := Lib.hid (HRM2.out.below hb3)
  clear hhv hb3 HTH
  obtain ⟨T, hT⟩ : ∃ T, T = laidS (want.take 300) := ⟨_, rfl⟩
  rw [← hT] at HTG HTE HW3 HREC
  obtain ⟨H, hH⟩ : ∃ H, H = thereB (roomN l) old := ⟨_, rfl⟩
  have HHD := Lib.hid hH
  rw [← hH] at HOK HH3
  clear hT hH HW2
  have hHl := HOK.out.len
  have hTl : T.length ≤ 2400 := by have := HTG.out.len; omega
  have HDO := Lib.hid (refDone_any hv wv H T w3 HH3.out HW3.out (by omega) (by omega) HOK.out.mem (fun y hy => (HTE.out y hy).2))
  go_wp2_with fail
  refine HDO.out.mono ?_
  rintro e w4 ⟨dv, rfl, hdv, hb4⟩
  have HB4 := Lib.hid (HB3.out.tn hb4)
  have HH4 := Lib.hid (HH3.out.below hb4)
  have HW4 := Lib.hid (HW3.out.below hb4)
  have HRM4 := Lib.hid (HRM3.out.below hb4)
  have HD4 := Lib.hid hdv
  clear hdv hb4 HDO
  have t5 : Below w4.heap.size w4 (w4.alloc (.cells #[.int .i64 0, .int .i64 0] 31)) := (Below.rf w4).alloc (Nat.le_refl _) _
  have F5 := Lib.hid (heap_new w4 (.cells #[.int .i64 0, .int .i64 0] 31))
  have HB5 := Lib.hid (HB4.out.tn t5)
  have HH5 := Lib.hid (HH4.out.below t5)
  have HW5 := Lib.hid (HW4.out.below t5)
  have HD5 := Lib.hid (HD4.out.below t5)
  have HOV := Lib.hid (refOver_any wv rmv T (roomN l 0) (roomN l 1) (roomN l 2) (roomN l) _ HW5.out (by omega) (HRM4.out.below t5) rfl rfl rfl)
  have HSZ : Hid (w.heap.size ≤ w4.heap.size) := Lib.hid HB4.out.size
  have H45 := Lib.hid t5
  clear t5
  go_upto_region 6 with fail
  generalize w4.alloc (.cells #[.int .i64 0, .int .i64 0] 31) = w5 at *
  go_wp2_with fail
  refine HOV.out.mono ?_
  rintro e w6 ⟨rfl, hb6⟩
  have F6 := Lib.hid (below_at hb6 (block_lt F5.out) F5.out)
  have HB6 := Lib.hid (HB5.out.tn hb6)
  have HH6 := Lib.hid (HH5.out.below hb6)
  have HW6 := Lib.hid (HW5.out.below hb6)
  have HD6 := Lib.hid (HD5.out.below hb6)
  have H46 := Lib.hid (H45.out.tn hb6)
  clear hb6 HOV H45
  obtain ⟨fb, hfb⟩ : ∃ fb, fb = w4.heap.size := ⟨_, rfl⟩
  have HFB := Lib.hid hfb
  rw [← hfb] at F6 ⊢
  clear hfb
  cases hos : overS T (roomN l) with
  | none =>
    rw [overI_no hos]
    have HFA := Lib.hid (recFacts_none (old := old) HTG.out.sorted (fun y hy => (HTE.out y hy).1) hos hTl)
    rw [← HHD.out] at HFA
    go_upto_region 11 with fail
    obtain ⟨DL, hDL⟩ : ∃ DL, DL = doneT H T := ⟨_, rfl⟩
    rw [← hDL] at HFA HD6
    clear hDL hos
    obtain ⟨fk, fp, HFA, HFw⟩ : ∃ fk fp : Int, Hid (RecFacts l old T T DL fk fp) ∧ Hid (w6.heap[fb]? = some (.cells #[.int .i64 fk, .int .i64 fp] 31 (0, 0))) := ⟨0, 0, HFA, F6⟩
    obtain ⟨WL, hWL⟩ : ∃ WL, WL = T := ⟨_, rfl⟩
    replace HFA : Hid (RecFacts l old T WL DL fk fp) := by rw [hWL]; exact HFA
    rw [← hWL] at HW6
    clear hWL
    have HBw := HB6
    have HHw := HH6
    have HWw := HW6
    have HDw := HD6
    clear HB6 HH6 HW6 HD6 F6 HB5 HH5 HW5 HD5 HB4 HH4 HW4 HRM4 HD4 HB3 HH3 HW3 HRM3 HB2 HRM2 HB1 HRM
    generalize w6 = W at *
    obtain ⟨-, da, dcap, rfl, hdc, -⟩ := HDw.out
    have hdl := HFA.out.dl
    have hwl := HFA.out.wl
    go_wp2_with fail
    refine (HLI.out W HBw.out).mono ?_
    rintro e w7 ⟨v7, rfl, hv7, rfl⟩
    have HV7 := Lib.hid hv7
    clear hv7
    go_wp2_with fail
    refine (HREC.out v7 W HBw.out HV7.out (-1) false (by omega)).mono ?_
    rintro e w8 ⟨v8, l8, rfl, he8, hl8, hb8⟩
    rw [HFA.out.flt]
    rw [HFA.out.one.1] at he8
    rw [HFA.out.one.2] at hl8
    have t9 : Below w8.heap.size w8 (w8.alloc (.cells #[.int .i64 fk, .int .i64 fp, .int .i64 0] 34)) := (Below.rf w8).alloc (Nat.le_refl _) _
    have G9 := Lib.hid (heap_new w8 (.cells #[.int .i64 fk, .int .i64 fp, .int .i64 0] 34))
    have HB9 := Lib.hid ((hb8.tn t9 : Below W.heap.size W _))
    have HE9 := Lib.hid (he8.below t9)
    have HL9 := Lib.hid (SliceAt.below hl8 t9)
    have HSW : Hid (w.heap.size ≤ w8.heap.size) := Lib.hid (HBw.out.tn hb8).size
    have HSV : Hid (W.heap.size ≤ w8.heap.size) := Lib.hid hb8.size
    have HSf : Hid (fb < w8.heap.size) := Lib.hid (Nat.lt_of_lt_of_le (block_lt HFw.out) hb8.size)
    clear he8 hl8 hb8 t9
    go_upto_region 12 with fail
    generalize hw9 : w8.alloc (.cells #[.int .i64 fk, .int .i64 fp, .int .i64 0] 34) = w9 at *
    clear hw9
    go_wp2_with fail
    refine (lawSameEntries_true _ _ WL w9 HE9.out (HWw.out.below HB9.out) (by omega)).mono ?_
    rintro e w10 ⟨rfl, hb10⟩
    have HB10 := Lib.hid (HB9.out.tn hb10)
    have HL10 := Lib.hid (SliceAt.below HL9.out hb10)
    have G10 := Lib.hid (below_at hb10 (block_lt G9.out) G9.out)
    clear hb10
    go_wp2_with fail
    refine (sameTexts_true _ _ DL w10 HL10.out (SliceAt.below HDw.out HB10.out) (by omega)).mono ?_
    rintro e w11 ⟨rfl, hb11⟩
    have HB11 := Lib.hid (HB10.out.tn hb11)
    have G11 := Lib.hid (below_at hb11 (block_lt G10.out) G10.out)
    have F11 := Lib.hid (below_at HB11.out (block_lt HFw.out) HFw.out)
    clear hb11
    have g0 := cell_of_row _ _ 0 _ _ _ G11.out
    have g1 := cell_of_row _ _ 1 _ _ _ G11.out
    have g2 := cell_of_row _ _ 2 _ _ _ G11.out
    have f0 := cell_of_row _ _ 0 _ _ _ F11.out
    have f1 := cell_of_row _ _ 1 _ _ _ F11.out
    have hlg := block_lt G11.out
    have hlf := block_lt F11.out
    go_wp2_with fail
    refine (same_true fk fp w11).mono ?_
    rintro e w12 ⟨rfl, hb12⟩
    have HB12 := Lib.hid (HB11.out.tn hb12)
    have G12 := Lib.hid (below_at hb12 (block_lt G11.out) G11.out)
    clear hb12 g0 g1 g2 f0 f1 hlg hlf
    have hp := pickN_bound stop ((DL.length : Int) + 1) (by omega)
    obtain ⟨m, hmm⟩ : ∃ m : Nat, pickN stop ((DL.length : Int) + 1) = (m : Int) := Int.eq_ofNat_of_zero_le hp.1
    have hml : m ≤ DL.length := by omega
    have HPK := Lib.hid (fun W => lawPick_any stop ((DL.length : Int) + 1) W lo hi (by omega))
    rw [hmm] at HPK
    clear hp hmm
    go_wp2_with fail
    refine (HPK.out _).mono ?_
    rintro e w13 ⟨rfl, rfl⟩
    go_wp2_with fail
    refine (HLI.out w12 (HBw.out.tn HB12.out)).mono ?_
    rintro e w14 ⟨v14, rfl, hv14, rfl⟩
    have HV14 := Lib.hid hv14
    clear hv14
    go_wp2_with fail
    refine (HREC.out v14 w12 (HBw.out.tn HB12.out) HV14.out (m : Int) false (by omega)).mono ?_
    rintro e w15 ⟨v15, l15, rfl, he15, hl15, hb15⟩
    rw [HFA.out.flt]
    rw [(HFA.out.two m hml).1, ← HHD.out] at he15
    rw [(HFA.out.two m hml).2] at hl15
    have HB15 := Lib.hid (HB12.out.tn hb15)
    have HE15 := Lib.hid he15
    have HL15 := Lib.hid hl15
    have G15 := Lib.hid (below_at hb15 (block_lt G12.out) G12.out)
    clear he15 hl15 hb15
    go_wp2_with fail
    refine (refAfter_any hv _ H WL m w15 (HHw.out.below HB15.out) (HWw.out.below HB15.out) HOK.out.sorted (by omega) (by omega) (by omega)).mono ?_
    rintro e w16 ⟨v16, rfl, he16, hb16⟩
    have HB16 := Lib.hid (HB15.out.tn hb16)
    have HE16 := Lib.hid he16
    have HF16 := Lib.hid (HE15.out.below hb16)
    have HL16 := Lib.hid (SliceAt.below HL15.out hb16)
    have G16 := Lib.hid (below_at hb16 (block_lt G15.out) G15.out)
    clear he16 hb16
    have hal : (aftB H WL m).length ≤ 1000000000 := by
      have h1 := done_length H ((opsB H WL).take m) HOK.out.sorted
      have h2 := opsB_len H WL
      rw [List.length_take] at h1
      unfold aftB
      omega
    go_wp2_with fail
    refine (lawSameEntries_true _ _ (aftB H WL m) w16 HF16.out HE16.out hal).mono ?_
    rintro e w17 ⟨rfl, hb17⟩
    have HB17 := Lib.hid (HB16.out.tn hb17)
    have HL17 := Lib.hid (SliceAt.below HL16.out hb17)
    have G17 := Lib.hid (below_at hb17 (block_lt G16.out) G16.out)
    have HDK := Lib.hid ((SliceAt.below HDw.out HB17.out).takeT m hml)
    clear hb17 hal
    go_wp2_with fail
    refine (sameTexts_true _ _ (DL.take m) w17 HL17.out HDK.out (by rw [List.length_take]; omega)).mono ?_
    rintro e w18 ⟨rfl, hb18⟩
    have HB18 := Lib.hid (HB17.out.tn hb18)
    have G18 := Lib.hid (below_at hb18 (block_lt G17.out) G17.out)
    clear hb18
    go_wp2_with fail
    refine (HLI.out w18 (HBw.out.tn HB18.out)).mono ?_
    rintro e w19 ⟨v19, rfl, hv19, rfl⟩
    have HV19 := Lib.hid hv19
    clear hv19
    go_wp2_with fail
    refine (HREC.out v19 w18 (HBw.out.tn HB18.out) HV19.out (m : Int) true (by omega)).mono ?_
    rintro e w20 ⟨v20, l20, rfl, he20, hl20, hb20⟩
    rw [HFA.out.flt]
    rw [(HFA.out.three m hml).1] at he20
    rw [(HFA.out.three m hml).2] at hl20
    have HB20 := Lib.hid (HB18.out.tn hb20)
    have HE20 := Lib.hid he20
    have HL20 := Lib.hid hl20
    have G20 := Lib.hid (below_at hb20 (block_lt G18.out) G18.out)
    have y0 := frozen_of_row _ _ 0 _ _ G20.out
    have y1 := frozen_of_row _ _ 1 _ _ G20.out
    have y2 := frozen_of_row _ _ 2 _ _ G20.out
    have x0 := cell_of_row _ _ 0 _ _ _ G20.out
    have x1 := cell_of_row _ _ 1 _ _ _ G20.out
    have x2 := cell_of_row _ _ 2 _ _ _ G20.out
    have hlx := block_lt G20.out
    have G21 := Lib.hid (heap_setCell _ _ 2 (.int .i64 0) (heap_setCell _ _ 1 (.int .i64 fp) (heap_setCell _ _ 0 (.int .i64 fk) G20.out)))
    have hb21 : Below w.heap.size w (((w20.setCell ⟨w8.heap.size, 0, none⟩ (.int .i64 fk)).setCell ⟨w8.heap.size, 1, none⟩ (.int .i64 fp)).setCell ⟨w8.heap.size, 2, none⟩ (.int .i64 0)) := (((HBw.out.tn HB20.out).setCell (p := ⟨w8.heap.size, 0, none⟩) HSW.out _).setCell (p := ⟨w8.heap.size, 1, none⟩) HSW.out _).setCell (p := ⟨w8.heap.size, 2, none⟩) HSW.out _
    have HX := Lib.hid (show Ext (fun i => i = w8.heap.size) w20 (((w20.setCell ⟨w8.heap.size, 0, none⟩ (.int .i64 fk)).setCell ⟨w8.heap.size, 1, none⟩ (.int .i64 fp)).setCell ⟨w8.heap.size, 2, none⟩ (.int .i64 0)) from (((Ext.refl (fun i => i = w8.heap.size) w20).setCell ⟨w8.heap.size, 0, none⟩ _ (.inl rfl)).setCell ⟨w8.heap.size, 1, none⟩ _ (.inl rfl)).setCell ⟨w8.heap.size, 2, none⟩ _ (.inl rfl))
    have HB21 := Lib.hid hb21
    have HE21 := Lib.hid (EntsAt.setInt (i := 2) (EntsAt.setInt (i := 1) (EntsAt.setInt (i := 0) HE20.out G20.out (.int .i64 fk)) (heap_setCell _ _ 0 (.int .i64 fk) G20.out) (.int .i64 fp)) (heap_setCell _ _ 1 (.int .i64 fp) (heap_setCell _ _ 0 (.int .i64 fk) G20.out)) (.int .i64 0))
    have HL21 := Lib.hid (SliceAt.setIntT (i := 2) (SliceAt.setIntT (i := 1) (SliceAt.setIntT (i := 0) HL20.out G20.out (.int .i64 fk)) (heap_setCell _ _ 0 (.int .i64 fk) G20.out) (.int .i64 fp)) (heap_setCell _ _ 1 (.int .i64 fp) (heap_setCell _ _ 0 (.int .i64 fk) G20.out)) (.int .i64 0))
    have HBW := Lib.hid (show Below W.heap.size W (((w20.setCell ⟨w8.heap.size, 0, none⟩ (.int .i64 fk)).setCell ⟨w8.heap.size, 1, none⟩ (.int .i64 fp)).setCell ⟨w8.heap.size, 2, none⟩ (.int .i64 0)) from ((HB20.out.setCell (p := ⟨w8.heap.size, 0, none⟩) HSV.out _).setCell (p := ⟨w8.heap.size, 1, none⟩) HSV.out _).setCell (p := ⟨w8.heap.size, 2, none⟩) HSV.out _)
    clear hb21
    go_upto_region 24 with fail
    generalize ((w20.setCell ⟨w8.heap.size, 0, none⟩ (.int .i64 fk)).setCell ⟨w8.heap.size, 1, none⟩ (.int .i64 fp)).setCell ⟨w8.heap.size, 2, none⟩ (.int .i64 0) = w21 at *
    clear y0 y1 y2 x0 x1 x2 hlx
    go_wp2_with fail
    refine (lawSameEntries_true _ _ WL w21 HE21.out (HWw.out.below HBW.out) (by omega)).mono ?_
    rintro e w22 ⟨rfl, hb22⟩
    have HL22 := Lib.hid (SliceAt.below HL21.out hb22)
    have HB22 := Lib.hid (HB21.out.tn hb22)
    have HV22 := Lib.hid (HBW.out.tn hb22)
    have G22 := Lib.hid (below_at hb22 (block_lt G21.out) G21.out)
    clear hb22
    go_wp2_with fail
    refine (sameTexts_true _ _ DL w22 HL22.out (SliceAt.below HDw.out HV22.out) (by omega)).mono ?_
    rintro e w23 ⟨rfl, hb23⟩
    have HB23 := Lib.hid (HB22.out.tn hb23)
    have HV23 := Lib.hid (HV22.out.tn hb23)
    have G23 := Lib.hid (below_at hb23 (block_lt G22.out) G22.out)
    have F23 := Lib.hid (below_at HV23.out (block_lt HFw.out) HFw.out)
    clear hb23
    have g0 := cell_of_row _ _ 0 _ _ _ G23.out
    have g1 := cell_of_row _ _ 1 _ _ _ G23.out
    have g2 := cell_of_row _ _ 2 _ _ _ G23.out
    have f0 := cell_of_row _ _ 0 _ _ _ F23.out
    have f1 := cell_of_row _ _ 1 _ _ _ F23.out
    have hlg := block_lt G23.out
    have hlf := block_lt F23.out
    go_wp2_with fail
    refine (same_true fk fp w23).mono ?_
    rintro e w24 ⟨rfl, hb24⟩
    clear g0 g1 g2 f0 f1 hlg hlf
    go_wp2
    go_ret
    exact ⟨rfl, HB23.out.tn hb24⟩
  | some t =>
    obtain ⟨ho1, ho2⟩ := overI_some hos
    rw [ho1]
    have HFA := Lib.hid (recFacts_some (old := old) hos)
    rw [← HHD.out] at HFA
    clear hos ho1
    have ht0 : (0 : Int) ≤ (t : Int) := by omega
    have f0 := cell_of_row _ _ 0 _ _ _ F6.out
    have f1 := cell_of_row _ _ 1 _ _ _ F6.out
    have z0 := frozen_of_row _ _ 0 _ _ F6.out
    have z1 := frozen_of_row _ _ 1 _ _ F6.out
    have hlf := block_lt F6.out
    have F7 := Lib.hid (heap_setCell _ _ 1 (.int .i64 (t : Int)) (heap_setCell _ _ 0 (.int .i64 10) F6.out))
    have hx7 : Below w4.heap.size w4 ((w6.setCell ⟨fb, 0, none⟩ (.int .i64 10)).setCell ⟨fb, 1, none⟩ (.int .i64 (t : Int))) := (H46.out.setCell (p := ⟨fb, 0, none⟩) (by rw [HFB.out]; exact Nat.le_refl _) _).setCell (p := ⟨fb, 1, none⟩) (by rw [HFB.out]; exact Nat.le_refl _) _
    have HBw := Lib.hid (HB4.out.tn hx7)
    have HHw := Lib.hid (HH4.out.below hx7)
    have HWw := Lib.hid (HH4.out.below hx7)
    have HDw : Hid (SliceAt ((w6.setCell ⟨fb, 0, none⟩ (.int .i64 10)).setCell ⟨fb, 1, none⟩ (.int .i64 (t : Int))) (.slice none 0 0) 1 ([] : List (List UInt8)).length (strsV [])) := Lib.hid (SliceAt.nil _ _ _ _)
    clear hx7
    go_upto_region 11 with fail
    obtain ⟨fk, fp, HFA, HFw⟩ : ∃ fk fp : Int, Hid (RecFacts l old T H [] fk fp) ∧ Hid (((w6.setCell ⟨fb, 0, none⟩ (.int .i64 10)).setCell ⟨fb, 1, none⟩ (.int .i64 (t : Int))).heap[fb]? = some (.cells #[.int .i64 fk, .int .i64 fp] 31 (0, 0))) := ⟨10, (t : Int), HFA, F7⟩
    obtain ⟨WL, hWL⟩ : ∃ WL, WL = H := ⟨_, rfl⟩
    rw [← hWL] at HWw
    replace HFA : Hid (RecFacts l old T WL [] fk fp) := by rw [hWL]; exact HFA
    clear hWL f0 f1 z0 z1 hlf F7
    obtain ⟨DL, hDL⟩ : ∃ DL : List (List UInt8), DL = [] := ⟨_, rfl⟩
    rw [← hDL] at HFA HDw
    have hDz : DL.length = 0 := by rw [hDL]; rfl
    clear hDL
    clear HB6 HH6 HW6 HD6 F6 HB5 HH5 HW5 HD5 HB4 HH4 HW4 HRM4 HD4 HB3 HH3 HW3 HRM3 HB2 HRM2 HB1 HRM
    generalize ((w6.setCell ⟨fb, 0, none⟩ (.int .i64 10)).setCell ⟨fb, 1, none⟩ (.int .i64 (t : Int))) = W at *
    have hdl := HFA.out.dl
    have hwl := HFA.out.wl
    go_wp2_with fail
    refine (HLI.out W HBw.out).mono ?_
    rintro e w7 ⟨v7, rfl, hv7, rfl⟩
    have HV7 := Lib.hid hv7
    clear hv7
    go_wp2_with fail
    refine (HREC.out v7 W HBw.out HV7.out (-1) false (by omega)).mono ?_
    rintro e w8 ⟨v8, l8, rfl, he8, hl8, hb8⟩
    rw [HFA.out.flt]
    rw [HFA.out.one.1] at he8
    rw [HFA.out.one.2] at hl8
    have t9 : Below w8.heap.size w8 (w8.alloc (.cells #[.int .i64 fk, .int .i64 fp, .int .i64 0] 34)) := (Below.rf w8).alloc (Nat.le_refl _) _
    have G9 := Lib.hid (heap_new w8 (.cells #[.int .i64 fk, .int .i64 fp, .int .i64 0] 34))
    have HB9 := Lib.hid ((hb8.tn t9 : Below W.heap.size W _))
    have HE9 := Lib.hid (he8.below t9)
    have HL9 := Lib.hid (SliceAt.below hl8 t9)
    have HSW : Hid (w.heap.size ≤ w8.heap.size) := Lib.hid (HBw.out.tn hb8).size
    have HSV : Hid (W.heap.size ≤ w8.heap.size) := Lib.hid hb8.size
    have HSf : Hid (fb < w8.heap.size) := Lib.hid (Nat.lt_of_lt_of_le (block_lt HFw.out) hb8.size)
    clear he8 hl8 hb8 t9
    go_upto_region 12 with fail
    generalize hw9 : w8.alloc (.cells #[.int .i64 fk, .int .i64 fp, .int .i64 0] 34) = w9 at *
    clear hw9
    go_wp2_with fail
    refine (lawSameEntries_true _ _ WL w9 HE9.out (HWw.out.below HB9.out) (by omega)).mono ?_
    rintro e w10 ⟨rfl, hb10⟩
    have HB10 := Lib.hid (HB9.out.tn hb10)
    have HL10 := Lib.hid (SliceAt.below HL9.out hb10)
    have G10 := Lib.hid (below_at hb10 (block_lt G9.out) G9.out)
    clear hb10
    go_wp2_with fail
    refine (sameTexts_true _ _ DL w10 HL10.out (SliceAt.below HDw.out HB10.out) (by omega)).mono ?_
    rintro e w11 ⟨rfl, hb11⟩
    have HB11 := Lib.hid (HB10.out.tn hb11)
    have G11 := Lib.hid (below_at hb11 (block_lt G10.out) G10.out)
    have F11 := Lib.hid (below_at HB11.out (block_lt HFw.out) HFw.out)
    clear hb11
    have g0 := cell_of_row _ _ 0 _ _ _ G11.out
    have g1 := cell_of_row _ _ 1 _ _ _ G11.out
    have g2 := cell_of_row _ _ 2 _ _ _ G11.out
    have f0 := cell_of_row _ _ 0 _ _ _ F11.out
    have f1 := cell_of_row _ _ 1 _ _ _ F11.out
    have hlg := block_lt G11.out
    have hlf := block_lt F11.out
    go_wp2_with fail
    refine (same_true fk fp w11).mono ?_
    rintro e w12 ⟨rfl, hb12⟩
    have HB12 := Lib.hid (HB11.out.tn hb12)
    have G12 := Lib.hid (below_at hb12 (block_lt G11.out) G11.out)
    clear hb12 g0 g1 g2 f0 f1 hlg hlf
    have hp := pickN_bound stop 1 (by omega)
    have hmm : pickN stop 1 = 0 := by omega
    have HPK := Lib.hid (fun W => lawPick_any stop 1 W lo hi (by omega))
    rw [hmm] at HPK
    clear hp hmm
    go_wp2_with fail
    refine (HPK.out _).mono ?_
    rintro e w13 ⟨rfl, rfl⟩
    go_wp2_with fail
    refine (HLI.out w12 (HBw.out.tn HB12.out)).mono ?_
    rintro e w14 ⟨v14, rfl, hv14, rfl⟩
    have HV14 := Lib.hid hv14
    clear hv14
    go_wp2_with fail
    refine (HREC.out v14 w12 (HBw.out.tn HB12.out) HV14.out ((0 : Nat) : Int) false (by omega)).mono ?_
    rintro e w15 ⟨v15, l15, rfl, he15, hl15, hb15⟩
    rw [HFA.out.flt]
    rw [(HFA.out.two 0 (Nat.zero_le _)).1, ← HHD.out] at he15
    rw [(HFA.out.two 0 (Nat.zero_le _)).2] at hl15
    have HB15 := Lib.hid (HB12.out.tn hb15)
    have HE15 := Lib.hid he15
    have HL15 := Lib.hid hl15
    have G15 := Lib.hid (below_at hb15 (block_lt G12.out) G12.out)
    clear he15 hl15 hb15
    go_wp2_with fail
    refine (refAfter_any hv _ H WL 0 w15 (HHw.out.below HB15.out) (HWw.out.below HB15.out) HOK.out.sorted (by omega) (by omega) (by omega)).mono ?_
    rintro e w16 ⟨v16, rfl, he16, hb16⟩
    have HB16 := Lib.hid (HB15.out.tn hb16)
    have HE16 := Lib.hid he16
    have HF16 := Lib.hid (HE15.out.below hb16)
    have HL16 := Lib.hid (SliceAt.below HL15.out hb16)
    have G16 := Lib.hid (below_at hb16 (block_lt G15.out) G15.out)
    clear he16 hb16
    have hal : (aftB H WL 0).length ≤ 1000000000 := by
      have h1 := done_length H ((opsB H WL).take 0) HOK.out.sorted
      have h2 := opsB_len H WL
      rw [List.length_take] at h1
      unfold aftB
      omega
    go_wp2_with fail
    refine (lawSameEntries_true _ _ (aftB H WL 0) w16 HF16.out HE16.out hal).mono ?_
    rintro e w17 ⟨rfl, hb17⟩
    have HB17 := Lib.hid (HB16.out.tn hb17)
    have HL17 := Lib.hid (SliceAt.below HL16.out hb17)
    have G17 := Lib.hid (below_at hb17 (block_lt G16.out) G16.out)
    have HDK := Lib.hid ((SliceAt.below HDw.out HB17.out).takeT 0 (Nat.zero_le _))
    clear hb17 hal
    go_wp2_with fail
    refine (sameTexts_true _ _ (DL.take 0) w17 HL17.out HDK.out (by rw [List.length_take]; omega)).mono ?_
    rintro e w18 ⟨rfl, hb18⟩
    have HB18 := Lib.hid (HB17.out.tn hb18)
    have G18 := Lib.hid (below_at hb18 (block_lt G17.out) G17.out)
    clear hb18
    go_wp2_with fail
    refine (HLI.out w18 (HBw.out.tn HB18.out)).mono ?_
    rintro e w19 ⟨v19, rfl, hv19, rfl⟩
    have HV19 := Lib.hid hv19
    clear hv19
    go_wp2_with fail
    refine (HREC.out v19 w18 (HBw.out.tn HB18.out) HV19.out ((0 : Nat) : Int) true (by omega)).mono ?_
    rintro e w20 ⟨v20, l20, rfl, he20, hl20, hb20⟩
    rw [HFA.out.flt]
    rw [(HFA.out.three 0 (Nat.zero_le _)).1] at he20
    rw [(HFA.out.three 0 (Nat.zero_le _)).2] at hl20
    have HB20 := Lib.hid (HB18.out.tn hb20)
    have HE20 := Lib.hid he20
    have HL20 := Lib.hid hl20
    have G20 := Lib.hid (below_at hb20 (block_lt G18.out) G18.out)
    have y0 := frozen_of_row _ _ 0 _ _ G20.out
    have y1 := frozen_of_row _ _ 1 _ _ G20.out
    have y2 := frozen_of_row _ _ 2 _ _ G20.out
    have x0 := cell_of_row _ _ 0 _ _ _ G20.out
    have x1 := cell_of_row _ _ 1 _ _ _ G20.out
    have x2 := cell_of_row _ _ 2 _ _ _ G20.out
    have hlx := block_lt G20.out
    have G21 := Lib.hid (heap_setCell _ _ 2 (.int .i64 0) (heap_setCell _ _ 1 (.int .i64 fp) (heap_setCell _ _ 0 (.int .i64 fk) G20.out)))
    have hb21 : Below w.heap.size w (((w20.setCell ⟨w8.heap.size, 0, none⟩ (.int .i64 fk)).setCell ⟨w8.heap.size, 1, none⟩ (.int .i64 fp)).setCell ⟨w8.heap.size, 2, none⟩ (.int .i64 0)) := (((HBw.out.tn HB20.out).setCell (p := ⟨w8.heap.size, 0, none⟩) HSW.out _).setCell (p := ⟨w8.heap.size, 1, none⟩) HSW.out _).setCell (p := ⟨w8.heap.size, 2, none⟩) HSW.out _
    have HX := Lib.hid (show Ext (fun i => i = w8.heap.size) w20 (((w20.setCell ⟨w8.heap.size, 0, none⟩ (.int .i64 fk)).setCell ⟨w8.heap.size, 1, none⟩ (.int .i64 fp)).setCell ⟨w8.heap.size, 2, none⟩ (.int .i64 0)) from (((Ext.refl (fun i => i = w8.heap.size) w20).setCell ⟨w8.heap.size, 0, none⟩ _ (.inl rfl)).setCell ⟨w8.heap.size, 1, none⟩ _ (.inl rfl)).setCell ⟨w8.heap.size, 2, none⟩ _ (.inl rfl))
    have HB21 := Lib.hid hb21
    have HE21 := Lib.hid (EntsAt.setInt (i := 2) (EntsAt.setInt (i := 1) (EntsAt.setInt (i := 0) HE20.out G20.out (.int .i64 fk)) (heap_setCell _ _ 0 (.int .i64 fk) G20.out) (.int .i64 fp)) (heap_setCell _ _ 1 (.int .i64 fp) (heap_setCell _ _ 0 (.int .i64 fk) G20.out)) (.int .i64 0))
    have HL21 := Lib.hid (SliceAt.setIntT (i := 2) (SliceAt.setIntT (i := 1) (SliceAt.setIntT (i := 0) HL20.out G20.out (.int .i64 fk)) (heap_setCell _ _ 0 (.int .i64 fk) G20.out) (.int .i64 fp)) (heap_setCell _ _ 1 (.int .i64 fp) (heap_setCell _ _ 0 (.int .i64 fk) G20.out)) (.int .i64 0))
    have HBW := Lib.hid (show Below W.heap.size W (((w20.setCell ⟨w8.heap.size, 0, none⟩ (.int .i64 fk)).setCell ⟨w8.heap.size, 1, none⟩ (.int .i64 fp)).setCell ⟨w8.heap.size, 2, none⟩ (.int .i64 0)) from ((HB20.out.setCell (p := ⟨w8.heap.size, 0, none⟩) HSV.out _).setCell (p := ⟨w8.heap.size, 1, none⟩) HSV.out _).setCell (p := ⟨w8.heap.size, 2, none⟩) HSV.out _)
    clear hb21
    go_upto_region 24 with fail
    generalize ((w20.setCell ⟨w8.heap.size, 0, none⟩ (.int .i64 fk)).setCell ⟨w8.heap.size, 1, none⟩ (.int .i64 fp)).setCell ⟨w8.heap.size, 2, none⟩ (.int .i64 0) = w21 at *
    clear y0 y1 y2 x0 x1 x2 hlx
    go_wp2_with fail
    refine (lawSameEntries_true _ _ WL w21 HE21.out (HWw.out.below HBW.out) (by omega)).mono ?_
    rintro e w22 ⟨rfl, hb22⟩
    have HL22 := Lib.hid (SliceAt.below HL21.out hb22)
    have HB22 := Lib.hid (HB21.out.tn hb22)
    have HV22 := Lib.hid (HBW.out.tn hb22)
    have G22 := Lib.hid (below_at hb22 (block_lt G21.out) G21.out)
    clear hb22
    go_wp2_with fail
    refine (sameTexts_true _ _ DL w22 HL22.out (SliceAt.below HDw.out HV22.out) (by omega)).mono ?_
    rintro e w23 ⟨rfl, hb23⟩
    have HB23 := Lib.hid (HB22.out.tn hb23)
    have HV23 := Lib.hid (HV22.out.tn hb23)
    have G23 := Lib.hid (below_at hb23 (block_lt G22.out) G22.out)
    have F23 := Lib.hid (below_at HV23.out (block_lt HFw.out) HFw.out)
    clear hb23
    have g0 := cell_of_row _ _ 0 _ _ _ G23.out
    have g1 := cell_of_row _ _ 1 _ _ _ G23.out
    have g2 := cell_of_row _ _ 2 _ _ _ G23.out
    have f0 := cell_of_row _ _ 0 _ _ _ F23.out
    have f1 := cell_of_row _ _ 1 _ _ _ F23.out
    have hlg := block_lt G23.out
    have hlf := block_lt F23.out
    go_wp2_with fail
    refine (same_true fk fp w23).mono ?_
    rintro e w24 ⟨rfl, hb24⟩
    clear g0 g1 g2 f0 f1 hlg hlf
    go_wp2
    go_ret
    exact ⟨rfl, HB23.out.tn hb24⟩
end Go.Proofs.YtkkfmkhbdoeglabGreatDoor
