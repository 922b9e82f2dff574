/- The contract of package overlay's Encode. No condition. -/
import Derived.Test.YtkkfmkhbdoeglaaGreatDoorChk
import Derived.Test.YtkkfmkhbdoeglaaGreatDoorHeap
namespace Go.Proofs.YtkkfmkhbdoeglaaGreatDoor
open Go.RowKit

/-- how long the strings of a delta that may be are -/
theorem opBytes_le {o : OpB} {ks : List K} (h : opWrong o ks = 0) : (opBytes o).length ≤ 12 ∧ o.key.length ≤ 6 ∧ o.val.length ≤ 4 := by
  obtain ⟨h1, h2, h3, h4, h5, h6⟩ := opWrong_zero h
  have hk := isKeyB_length h4
  have hk6 : keyLen o.table ≤ 6 := by unfold keyLen; split <;> (try split) <;> omega
  have hv : o.val.length ≤ 4 := by
    unfold valOk at h6
    split at h6
    · have : o.val = [] := by simpa using h6
      rw [this]; simp
    · rw [isValueB_length h2 h3 h6]
      unfold valLen; split <;> (try split) <;> omega
  rw [opBytes_length]
  omega
theorem wrongFrom_none_at : ∀ (os : List OpB) (i : Nat) (ks : List K) (_ : wrongFrom i ks os = none) (k : Nat) (hk : k < os.length), ∃ ks', opWrong os[k] ks' = 0
  | o :: os, i, ks, h, 0, hk => by
    unfold wrongFrom at h
    split at h
    · rename_i h0; exact ⟨ks, h0⟩
    · cases h
  | o :: os, i, ks, h, k + 1, hk => by
    unfold wrongFrom at h
    split at h
    · exact wrongFrom_none_at os _ _ h k (by simpa using hk)
    · cases h
theorem flat_take (os : List OpB) (k : Nat) (h : k < os.length) : (os.take (k + 1)).flatMap opBytes = (os.take k).flatMap opBytes ++ opBytes os[k] := by
  rw [List.take_succ_eq_append_getElem h, List.flatMap_append]
  simp
theorem flat_le (os : List OpB) (k : Nat) (h : ∀ o ∈ os, (opBytes o).length ≤ 12) : ((os.take k).flatMap opBytes).length ≤ 12 * k := by
  induction k with
  | zero => simp
  | succ k ih =>
    by_cases hk : k < os.length
    · rw [flat_take os k hk, List.length_append]
      have := h os[k] (List.getElem_mem hk)
      omega
    · rw [List.take_of_length_le (by omega)] at ih ⊢
      omega
/-- a delta's bytes as far as k changes -/
def encTo (v : Nat) (os : List OpB) (k : Nat) : List UInt8 := be8 v ++ [UInt8.ofNat os.length] ++ (os.take k).flatMap opBytes
theorem encTo_zero (v : Nat) (os : List OpB) : encTo v os 0 = be8 v ++ [UInt8.ofNat os.length] := by simp [encTo]
theorem encTo_all (v : Nat) (os : List OpB) : encTo v os os.length = encB v os := by simp [encTo, encB]
theorem encTo_succ (v : Nat) (os : List OpB) (k : Nat) (h : k < os.length) : encTo v os (k + 1) = encTo v os k ++ opBytes os[k] := by
  unfold encTo
  rw [flat_take os k h, ← List.append_assoc]
theorem encTo_le (v : Nat) (os : List OpB) (k : Nat) (h : ∀ o ∈ os, (opBytes o).length ≤ 12) : (encTo v os k).length ≤ 9 + 12 * k := by
  unfold encTo
  have := flat_le os k h
  rw [List.length_append, List.length_append, be8_length, List.length_singleton]
  omega
set_option maxRecDepth 100000 in
set_option maxHeartbeats 1000000 in
theorem Encode_bad (v : Nat) (sv : Value) (os : List OpB) (w : World) (hs : OpsAt w sv os) (hg : ShapesVar w) (hfit : OpsFit os) (f : Nat × Nat) (hw : wrongB v os = some f) :
    Calls Tryz.prog 78 #[.agg #[.int .u64 v, sv]] w fun e w' => ∃ ev, e = .returned (.tuple #[.slice none 0 0, ev]) ∧ FaultAt w' w.heap.size ev f.1 f.2 ∧ Below w.heap.size w w' := by
  have hs' : OpsAt (w.alloc (.cells #[.int .u64 (v : Int), sv] 34)) sv os := hs.below ((Below.refl _ w).alloc (Nat.le_refl _) _)
  have HW := Lib.hid hw
  clear hw
  go_enter Tryz.func78, Tryz.ntmps78
  go_wp2_with fail
  refine (checked_any v sv os _ hs' (hg.alloc _) hfit).mono ?_
  rintro e w1 ⟨⟨r, rfl, fp, rfl, hf⟩, hb1⟩
  rw [HW.out] at hf
  obtain ⟨g, rfl, hg1, hg2⟩ := hf
  have HG2 := Lib.hid hg2
  clear hg2
  go_wp2
  go_ret2
  exact ⟨_, rfl, ⟨g, rfl, by simp at hg1; omega, HG2.out⟩, ((Below.refl _ w).alloc (Nat.le_refl _) _).trans (hb1.mono (by simp))⟩
set_option maxRecDepth 100000 in
set_option maxHeartbeats 1000000 in
theorem Encode_good (v : Nat) (sv : Value) (os : List OpB) (w : World) (hs : OpsAt w sv os) (hg : ShapesVar w) (hfit : OpsFit os) (hw : wrongB v os = none) :
    Calls Tryz.prog 78 #[.agg #[.int .u64 v, sv]] w fun e w' => ∃ bv, e = .returned (.tuple #[bv, .nilIface]) ∧ OwnS w' w.heap.size 1 bv (encB v os).length (u8s (encB v os)) ∧ Below w.heap.size w w' := by
  have hs' : OpsAt (w.alloc (.cells #[.int .u64 (v : Int), sv] 34)) sv os := hs.below ((Below.refl _ w).alloc (Nat.le_refl _) _)
  have HW := Lib.hid hw
  have hv : isVersionB v = true ∧ 1 ≤ os.length ∧ os.length ≤ 8 ∧ wrongFrom 0 [] os = none := by
    unfold wrongB at hw
    split at hw
    · cases hw
    · split at hw
      · cases hw
      · rename_i h1 h2
        exact ⟨by simpa using h1, by omega, by omega, hw⟩
  clear hw
  obtain ⟨hv, h1, h8, hwf⟩ := hv
  have hv64 := isVersionB_lt hv
  have HWF := Lib.hid hwf
  clear hwf hv
  go_enter Tryz.func78, Tryz.ntmps78
  go_wp2_with fail
  refine (checked_any v sv os _ hs' (hg.alloc _) hfit).mono ?_
  rintro e w1 ⟨⟨r, rfl, fp, rfl, hf⟩, hb1⟩
  rw [HW.out] at hf
  obtain rfl : fp = none := hf
  have HS1 := Lib.hid (hs'.below hb1)
  obtain ⟨a, cap, rfl, hcap, -⟩ := HS1.out.opened
  have B1 := Lib.hid (below_at hb1 (by simp) (heap_new w (.cells #[.int .u64 (v : Int), .slice a os.length cap] 34)))
  have c0 : w1.cell? ⟨w.heap.size, 0, none⟩ = some (.int .u64 v) := cell_of_row _ _ 0 _ _ _ B1.out
  have c1 : w1.cell? ⟨w.heap.size, 1, none⟩ = some (.slice a os.length cap) := cell_of_row _ _ 1 _ _ _ B1.out
  have hlt1 := block_lt B1.out
  clear hs hs'
  have hX : ((UInt8.ofNat os.length).toNat : Int) = IntKind.u8.wrap (os.length : Int) := by
    rw [IntWalk.u8_in _ (by omega)]
    simp; omega
  have hone := fun w => one_at w (UInt8.ofNat os.length)
  rw [hX] at hone
  have h8' : (os.length : Int) ≤ 8 := by omega
  go_wp2
  go_region_held3 (fun w' => w'.cell? ⟨w.heap.size, 0, none⟩ = some (.int .u64 v) ∧ w'.cell? ⟨w.heap.size, 1, none⟩ = some (.slice a os.length cap))
    (first | go_keep | exact ⟨d0, d1⟩ | exact ⟨e0, e1⟩)
    ((first
      | (go_at_call 113; refine (number_any _ (.slice none 0 0) [] v _ (OwnS.nil _ _ _) (Nat.le_refl _) (by simp [maxB]) hv64).mono ?_; rintro e w2 ⟨bv, rfl, hownb, hbb⟩; simp only [List.length_nil, Nat.zero_add, List.nil_append] at hownb;
          have d0 : w2.cell? ⟨w.heap.size, 0, none⟩ = some (.int .u64 v) := (hbb.cell (p := ⟨w.heap.size, 0, none⟩) (by simp; omega)).trans (by first | exact c0 | go_keep);
          have d1 : w2.cell? ⟨w.heap.size, 1, none⟩ = some (.slice a os.length cap) := (hbb.cell (p := ⟨w.heap.size, 1, none⟩) (by simp; omega)).trans (by first | exact c1 | go_keep))
      | (refine step_append_u8 rfl (.tmp 16) (.tmp 21) rfl _ bv 8 (be8 v) rfl (by first | exact hownb | exact hownb.below ((Below.refl _ w2).alloc (Nat.le_refl _) _)) [UInt8.ofNat os.length] (by first | exact hone _ | exact BytesAt.below (w := (w1.alloc _).drew) (hone w1) hbb) (by simp) (by have h9 := hbb.size; simp at h9 ⊢; omega) ?_; intro v3 w3 hown3 _ hb3;
          have e0 : w3.cell? ⟨w.heap.size, 0, none⟩ = some (.int .u64 v) := (hb3.cell (p := ⟨w.heap.size, 0, none⟩) (by simp; omega)).trans (by first | exact d0 | go_keep);
          have e1 : w3.cell? ⟨w.heap.size, 1, none⟩ = some (.slice a os.length cap) := (hb3.cell (p := ⟨w.heap.size, 1, none⟩) (by simp; omega)).trans (by first | exact d1 | go_keep))))
  all_goals
    have hown4 : OwnS w3 w1.heap.size 1 v3 (be8 v ++ [UInt8.ofNat os.length]).length (u8s (be8 v ++ [UInt8.ofNat os.length])) := by
      rw [List.length_append, be8_length]
      exact hown3.mono (by simp)
    have hb4 : Below w1.heap.size w1 w3 := by
      first
        | exact ((((Below.refl w1.heap.size w1).drew).trans hbb).alloc hbb.size _).trans hb3
        | exact ((((Below.refl w1.heap.size w1).alloc (Nat.le_refl _) _).drew).trans (hbb.mono (by simp))).trans (hb3.mono (by simp))
    clear hown3 hb3 hownb hbb d0 d1 hone hX c0 c1
    have HS3 := Lib.hid (HS1.out.below hb4)
    have hlt3 : w1.heap.size ≤ w3.heap.size := hb4.size
  all_goals go_wp2
  all_goals
    go_loopw [5, 26] (fun bw i wr => ∃ k : Nat, k ≤ os.length ∧ i = .int .i64 k ∧ OwnS wr w1.heap.size 1 bw (encTo v os k).length (u8s (encTo v os k)) ∧ Below w1.heap.size w1 wr) (fun _ i _ => os.length - (intOf i).toNat)
    case atStart => exact ⟨0, by omega, rfl, by rw [encTo_zero]; exact hown4, hb4⟩
    case round =>
      obtain ⟨k, hk, rfl, hown, hbr⟩ := hrel
      clear HS3 hown4 e0 e1
      have hsr := hbr.size
      by_cases hlt : k < os.length
      · obtain ⟨a', cap', he, hc', hx⟩ := (HS1.out.below hbr).opened
        cases he
        obtain ⟨b, off, rfl, c0, c1, c2, c3⟩ := hx k hlt
        clear hx hc'
        obtain ⟨ks, hks⟩ := wrongFrom_none_at os 0 [] HWF.out k hlt
        obtain ⟨hz1, hz2, hz3, -⟩ := opWrong_zero hks
        obtain ⟨hz4, hz5, hz6⟩ := opBytes_le hks
        have HFT := Lib.hid (encTo_succ v os k hlt)
        have hpl := encTo_le v os k (fun o ho => by
          obtain ⟨j, hj, rfl⟩ := List.mem_iff_getElem.1 ho
          obtain ⟨ks, hks⟩ := wrongFrom_none_at os 0 [] HWF.out j hj
          exact (opBytes_le hks).1)
        obtain ⟨P, hP⟩ : ∃ P, P = encTo v os k := ⟨_, rfl⟩
        have hPl : P.length ≤ 200 := by rw [hP]; omega
        rw [← hP] at hown
        have HP := Lib.hid hP
        clear hP hpl
        obtain ⟨kd, T, KB, VB, ho⟩ : ∃ kd T KB VB, os[k] = ⟨kd, T, KB, VB⟩ := ⟨_, _, _, _, rfl⟩
        rw [ho] at c0 c1 c2 c3 hz1 hz2 hz3 hz5 hz6
        have HO := Lib.hid ho
        clear ho hks hz4
        simp only at hz1 hz2 hz3 hz5 hz6
        have hcl := cell_lt c0
        have hlt' : (k : Int) < os.length := by omega
        have hkd1 : 1 ≤ kd := by omega
        have hkd2 : kd ≤ 2 := by omega
        clear hz1
        obtain ⟨xk, hxk⟩ : ∃ xk : UInt8, (xk.toNat : Int) = kd ∧ xk = UInt8.ofNat kd.toNat := ⟨UInt8.ofNat kd.toNat, by simp; omega, rfl⟩
        obtain ⟨xt, hxt⟩ : ∃ xt : UInt8, (xt.toNat : Int) = T ∧ xt = UInt8.ofNat T.toNat := ⟨UInt8.ofNat T.toNat, by simp; omega, rfl⟩
        have HXK := Lib.hid hxk
        have HXT := Lib.hid hxt
        clear hxk hxt
        have hX1 := heap_new wr (.cells #[.int .i64 kd, .int .i64 T, .string ⟨KB.toArray⟩, .string ⟨VB.toArray⟩] 96)
        have HB0 := Lib.hid (heap_old (wr.alloc (.cells #[.int .i64 kd, .int .i64 T, .string ⟨KB.toArray⟩, .string ⟨VB.toArray⟩] 96)) (.cells #[.int .u8 kd, .int .u8 T] 5) hX1)
        clear hX1
        have hap0 : u5.ownBlock ≠ some wr.heap.size := fun e => by have := hown.ownBlock_lt _ e; omega
        have hownA : OwnS ((wr.alloc (.cells #[.int .i64 kd, .int .i64 T, .string ⟨KB.toArray⟩, .string ⟨VB.toArray⟩] 96)).alloc (.cells #[.int .u8 kd, .int .u8 T] 5)) w1.heap.size 1 u5 P.length (u8s P) := hown.below (((Below.refl _ wr).alloc (Nat.le_refl _) _).alloc (by simp) _)
        have htwo := two_at (wr.alloc (.cells #[.int .i64 kd, .int .i64 T, .string ⟨KB.toArray⟩, .string ⟨VB.toArray⟩] 96)) xk xt kd T HXK.out.1 HXT.out.1
        simp only [World.size_alloc] at htwo
        have HTWO := Lib.hid htwo
        have HOWN := Lib.hid hownA
        clear htwo hownA hown
        go_wp2_with (first
          | (at_builtin; refine wpList_append_apart rfl (.tmp 30) (.tmp 38) 59 rfl w1.heap.size u5 P.length P rfl HOWN.out [xk, xt] (by exact (BytesAt.src HTWO.out)) (by simp; omega) (by simp; omega) ?_; intro v5 w5 hown5 hg5 hb5 hap5;
              have B5 := Lib.hid (grown_at hg5 hap0 HB0.out);
              have k5 := hap5 wr.heap.size (by simp; omega) hap0;
              have q1 : w5.cell? ⟨wr.heap.size, 2, none⟩ = some (.string ⟨KB.toArray⟩) := cell_of_row _ _ 2 _ _ _ B5.out; have hl5 := block_lt B5.out)
          | (at_builtin; refine wpList_append_apart rfl (.tmp 40) (.tmp 43) 9 rfl w1.heap.size v5 _ _ rfl hown5 KB (by exact src_str KB) (by simp; omega) (by have := hb5.size; simp at this ⊢; omega) ?_; intro v6 w6 hown6 hg6 hb6 hap6;
              have B6 := Lib.hid (grown_at hg6 k5 B5.out);
              have q2 : w6.cell? ⟨wr.heap.size, 3, none⟩ = some (.string ⟨VB.toArray⟩) := cell_of_row _ _ 3 _ _ _ B6.out; have hl6 := block_lt B6.out)
          | (at_builtin; refine wpList_append_apart rfl (.tmp 45) (.tmp 47) 9 rfl w1.heap.size v6 _ _ rfl hown6 VB (by exact src_str VB) (by simp; omega) (by have := hb5.size; have := hb6.size; simp at *; omega) ?_; intro v7 w7 hown7 hg7 hb7 hap7))
        go_roundw
        case rel =>
          refine ⟨v7, _, .int .i64 ((k : Int) + 1), ⟨k + 1, by omega, by go_num, ?_, ?_⟩, rfl, rfl, (IntWalk.u8_in _ (by omega)).symm, rfl⟩
          · have e : P ++ [xk, xt] ++ KB ++ VB = encTo v os (k + 1) := by
              rw [HFT.out, HO.out, HP.out, HXK.out.2, HXT.out.2]
              simp [opBytes]
            have e2 : P.length + [xk, xt].length + KB.length + VB.length = (P ++ [xk, xt] ++ KB ++ VB).length := by simp only [List.length_append]
            rw [← e, ← e2]
            exact hown7
          · exact ((((hbr.alloc hsr _).alloc (by simp; omega) _).trans hb5).trans hb6).trans hb7
        case measure => simp [intOf]; omega
      · obtain rfl : k = os.length := by omega
        rw [encTo_all] at hown
        have hge : ¬ (os.length : Int) < os.length := by omega
        go_wp2
        go_ret2
        exact ⟨_, rfl, hown.mono (by omega), (((Below.refl _ w).alloc (Nat.le_refl _) _).trans (hb1.mono (by simp))).trans (hbr.mono (by omega))⟩
end Go.Proofs.YtkkfmkhbdoeglaaGreatDoor
