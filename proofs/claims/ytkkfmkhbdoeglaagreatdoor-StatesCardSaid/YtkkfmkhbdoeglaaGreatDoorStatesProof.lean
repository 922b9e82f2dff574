/- Every EncodeAll and every DecodeAll is the document's, error and place too, also of a state's bytes cut short or with one byte another (P8): the statement States, for every input. Condition: the package-level variables that errors.As and the table shapes read hold what the program's text lays there (the card ties them to that text). -/
import Derived.Test.YtkkfmkhbdoeglaaGreatDoorTabGood
import Derived.Test.YtkkfmkhbdoeglaaGreatDoorRefEnt
import Derived.Test.YtkkfmkhbdoeglaaGreatDoorSameE
import Derived.Test.YtkkfmkhbdoeglaaGreatDoorEncAll
import Derived.Test.YtkkfmkhbdoeglaaGreatDoorLaid
namespace Go.Proofs.YtkkfmkhbdoeglaaGreatDoor
open Go.RowKit

set_option maxRecDepth 100000 in
set_option maxHeartbeats 1000000 in
theorem stated_any (l : List UInt8) (w : World) (hg : ShapesVar w) (hge : ErrVar w) (hl : l.length ≤ maxB) :
    Calls Tryz.prog 35 #[.string ⟨l.toArray⟩] w fun e w' => e = .returned (.bool true) ∧ Below w.heap.size w w' := by
  have H1 : Hid (∃ (n : Nat) (S : List E) (k p : Nat), S.length ≤ 1000000000 ∧ (Calls Tryz.prog 74 #[.string ⟨l.toArray⟩] w fun e w' => (∃ sv, e = .returned (.tuple #[.int .u64 n, sv, faultV k p 0]) ∧ EntsAt w' sv S) ∧ Below w.heap.size w w') ∧
      ∀ W, Calls Tryz.prog 75 #[.string ⟨l.toArray⟩] W fun e w' => (∃ sv, e = .returned (.tuple #[.int .u64 n, sv, .agg #[.int .i64 k, .int .i64 p]]) ∧ EntsAt w' sv S) ∧ Below W.heap.size W w') := by
    refine Lib.hid ?_
    have href := fun W => refDecodeAll_any l W hl
    unfold RefDecAllPost at href
    rw [← decAllB_ref] at href
    cases hd : decAllB l with
    | inl x =>
      obtain ⟨n, S⟩ := x
      have hS := (decAllB_inl hd).1
      refine ⟨n, S, 0, 0, by omega, plainDecodeAll_good l w hl hg n S hd (by omega), fun W => ?_⟩
      have h2 := href W
      rw [hd] at h2
      exact h2.mono fun e w' ⟨hb, h⟩ => ⟨h, hb⟩
    | inr x =>
      obtain ⟨k, p⟩ := x
      have hk := decAllB_inr hd
      refine ⟨0, [], k, p, by simp, (plainDecodeAll_bad l w hl hg hge k p hd (by omega)).mono fun e w' ⟨he, hb⟩ => ⟨⟨_, he, SliceAt.nil _ _ _ _⟩, hb⟩, fun W => ?_⟩
      have h2 := href W
      rw [hd] at h2
      exact h2.mono fun e w' ⟨hb, h⟩ => ⟨⟨_, h, SliceAt.nil _ _ _ _⟩, hb⟩
  obtain ⟨n, S, k, p, hS, h1, h2⟩ := H1.out
  have HP := Lib.hid h1
  have HQ := Lib.hid h2
  clear H1 h1 h2
  have e1 : ((n : Int) == n) = true := beq_self_eq_true _
  go_enter Tryz.func35, Tryz.ntmps35
  go_wp2_with fail
  refine HP.out.mono ?_
  rintro e w1 ⟨⟨sv, rfl, hsv⟩, hb1⟩
  unfold faultV
  have t1 : Below w1.heap.size w1 (w1.alloc (.cells #[.int .i64 k, .int .i64 p, .int .i64 0] 38)) := (Below.refl _ w1).alloc (Nat.le_refl _) _
  have HF1 := Lib.hid (heap_new w1 (.cells #[.int .i64 k, .int .i64 p, .int .i64 0] 38))
  have HS1 := Lib.hid (hsv.below t1)
  clear hsv
  go_wp2_with fail
  generalize w1.alloc (.cells #[.int .i64 k, .int .i64 p, .int .i64 0] 38) = wa at *
  refine (HQ.out wa).mono ?_
  rintro e w2 ⟨⟨tv, rfl, htv⟩, hb2⟩
  have t2 : Below w2.heap.size w2 (w2.alloc (.cells #[.int .i64 k, .int .i64 p] 69)) := (Below.refl _ w2).alloc (Nat.le_refl _) _
  have HF2 := Lib.hid (below_at (hb2.tn t2) (block_lt HF1.out) HF1.out)
  have HG2 := Lib.hid (heap_new w2 (.cells #[.int .i64 k, .int .i64 p] 69))
  have HS2 := Lib.hid (HS1.out.below (hb2.tn t2))
  have HT2 := Lib.hid (htv.below t2)
  clear htv
  have hlt2 := block_lt HF2.out
  have hlt2' := block_lt HG2.out
  have f0 := cell_of_row _ _ 0 _ _ _ HF2.out
  have f1 := cell_of_row _ _ 1 _ _ _ HF2.out
  have f2 := cell_of_row _ _ 2 _ _ _ HF2.out
  have g0 := cell_of_row _ _ 0 _ _ _ HG2.out
  have g1 := cell_of_row _ _ 1 _ _ _ HG2.out
  go_upto_region 3 with fail
  generalize w2.alloc (.cells #[.int .i64 k, .int .i64 p] 69) = wb at *
  go_wp2_with fail
  refine (same_true k p _).mono ?_
  rintro e w3 ⟨rfl, hb3⟩
  have HS3 := Lib.hid (HS2.out.below hb3)
  have HT3 := Lib.hid (HT2.out.below hb3)
  clear f0 f1 f2 g0 g1
  go_wp2_with fail
  refine (lawSameEntries_true _ _ S _ HS3.out HT3.out hS).mono ?_
  rintro e w4 ⟨rfl, hb4⟩
  go_wp2
  go_ret
  exact ⟨rfl, (((((hb1.tn t1).tn hb2).tn t2).tn hb3).tn hb4)⟩
theorem EntsAt.take {w : World} {a : Option Addr} {n cap : Nat} {l : List E} (h : EntsAt w (.slice a n cap) l) (k : Nat) (hk : k ≤ l.length) : EntsAt w (.slice a k cap) (l.take k) := by
  obtain ⟨hl, a', cap', he, hc, hx⟩ := h
  cases he
  have htl : (l.take k).length = k := by rw [List.length_take]; omega
  have hot : entCells l = entCells (l.take k) ++ entCells (l.drop k) := by rw [← entCells_append, List.take_append_drop]
  refine ⟨entCells_length _, a, cap, by rw [htl], by omega, fun i hi => ?_⟩
  have hi2 : i < (entCells l).length := by rw [hot, List.length_append]; omega
  obtain ⟨b, off, rfl, hcell⟩ := hx i hi2
  refine ⟨b, off, rfl, ?_⟩
  rw [hcell]
  congr 1
  have : (entCells l)[i]? = (entCells (l.take k))[i]? := by rw [hot, List.getElem?_append_left hi]
  rw [List.getElem?_eq_getElem hi2, List.getElem?_eq_getElem hi] at this
  exact Option.some.inj this
theorem limited_any (v : Value) (l : List E) (w : World) (h : EntsAt w v l) (hm : l.length ≤ 1000000000000000) :
    Calls Tryz.prog 36 #[v] w fun e w' => ∃ v', e = .returned v' ∧ EntsAt w v' (l.take 300) ∧ w = w' := by
  obtain ⟨a, cap, rfl, hc, -⟩ := h.opened
  have H := Lib.hid h
  clear h
  by_cases h3 : 300 < l.length
  · have h3' : (300 : Int) < l.length := by omega
    have hc3 : 300 ≤ cap := by omega
    go_enter Tryz.func36, Tryz.ntmps36
    go_wp2
    go_ret
    exact ⟨_, rfl, H.out.take 300 (by omega), rfl⟩
  · have h3' : ¬ (300 : Int) < l.length := by omega
    go_enter Tryz.func36, Tryz.ntmps36
    go_wp2
    go_ret
    exact ⟨_, rfl, by rw [List.take_of_length_le (by omega)]; exact H.out, rfl⟩
/-- what holds at proper's loop -/
def ProperRel (w : World) (l : List E) (ov i : Value) (wr : World) : Prop :=
  ∃ k : Nat, k ≤ l.length ∧ k ≤ 300 ∧ i = .int .i64 (k : Int) ∧ EntsAt wr ov (laidS (l.take k)) ∧ Below w.heap.size w wr
set_option maxRecDepth 100000 in
set_option maxHeartbeats 2000000 in
theorem proper_any (v : Value) (l : List E) (w : World) (h : EntsAt w v l) (hfit : ∀ x ∈ l, OpsFit [putOp x]) (hm : l.length ≤ 1000000000000000) :
    Calls Tryz.prog 38 #[v] w fun e w' => (∃ v', e = .returned v' ∧ EntsAt w' v' (laidS (l.take 300))) ∧ Below w.heap.size w w' := by
  obtain ⟨a, cap, rfl, hc, -⟩ := h.opened
  have HL := Lib.hid h
  have HF := Lib.hid hfit
  clear h hfit
  go_enter Tryz.func38, Tryz.ntmps38
  go_wp2_with fail
  go_loopw [3, 4] (fun ov i wr => ProperRel w l ov i wr) (fun _ i _ => l.length - (intOf i).toNat)
  case atStart => exact ⟨0, Nat.zero_le _, by omega, rfl, SliceAt.nil _ _ _ _, Below.refl _ _⟩
  case round =>
    obtain ⟨k, hk, hk3, rfl, hov, hbr⟩ := hrel
    have hsr := hbr.size
    by_cases hgo : k < l.length ∧ k < 300
    · obtain ⟨hlt, h3⟩ := hgo
      have hlt' : (k : Int) < l.length := by omega
      have h3' : (k : Int) < 300 := by omega
      obtain ⟨a', cap', he, -, hcell⟩ := (HL.out.below hbr).opened
      cases he
      obtain ⟨ob, oo, rfl, c0, c1, c2⟩ := hcell k hlt
      have lob := cell_lt c0
      have HT := Lib.hid (laidS_take l k hlt)
      have hF := HF.out l[k] (List.getElem_mem hlt)
      have HG := Lib.hid (laid_good (l.take k))
      have HO := Lib.hid hov
      have HB := Lib.hid hbr
      obtain ⟨va, vcap, rfl, -, -⟩ := hov.opened
      clear hcell hov hbr
      go_upto_region 5 with fail
      go_cut [5] from 7 to 43 (fun d wx => ∃ B sv, d = .pointer (some ⟨B, 0, none⟩) ∧ wx.heap[B]? = some (.cells #[.int .u64 1, sv] 34 (0, 0)) ∧ OpsAt wx sv [putOp l[k]] ∧ Below wr.heap.size wr wx)
      case first =>
        go_region
        all_goals
          go_wp2_with fail
          go_meet
        · have h1 := heap_new (wr.alloc (.cells #[.int .i64 (putOp l[k]).kind, .int .i64 (putOp l[k]).table, .string ⟨(putOp l[k]).key.toArray⟩, .string ⟨(putOp l[k]).val.toArray⟩] 96)) (.cells #[.int .u64 1, .slice (some ⟨wr.heap.size, 0, none⟩) 1 1] 34)
          rw [World.size_alloc] at h1
          exact ⟨wr.heap.size + 1, _, rfl, h1, (oneOp_at wr (putOp l[k])).below ((Below.refl _ _).alloc (Nat.le_refl _) _).drew, (((Below.refl _ wr).alloc (Nat.le_refl _) _).alloc (by simp) _).drew⟩
        · have h1 := oneOp_at (wr.alloc (.cells #[.int .u64 1, .slice (some ⟨wr.heap.size + 1, 0, none⟩) 1 1] 34)) (putOp l[k])
          rw [World.size_alloc] at h1
          exact ⟨wr.heap.size, _, rfl, heap_old _ _ (heap_new wr _), h1.below (Below.refl _ _).drew, (((Below.refl _ wr).alloc (Nat.le_refl _) _).alloc (by simp) _).drew⟩
      case rest =>
        obtain ⟨B, sv, rfl, hBx, hops, hbx⟩ := hcut
        obtain ⟨sa, scap, rfl, -⟩ := hops.opened
        have HOc := Lib.hid (HO.out.below hbx)
        have HBc := Lib.hid (HB.out.tn hbx)
        have HD := Lib.hid hBx
        have HP := Lib.hid hops
        have d0 := cell_of_row _ _ 0 _ _ _ hBx
        have d1 := cell_of_row _ _ 1 _ _ _ hBx
        have hlB := block_lt hBx
        clear c0 c1 c2 lob HO HB hBx hops hbx
        go_wp2_with fail
        refine (refWrong_any 1 _ [putOp l[k]] wc HP.out hF (by omega)).mono ?_
        rintro e w3 ⟨rfl, hb3⟩
        have HO3 := Lib.hid (HOc.out.below hb3)
        have HB3 := Lib.hid (HBc.out.tn hb3)
        have HD3 := Lib.hid (below_at hb3 hlB HD.out)
        have HP3 := Lib.hid (HP.out.below hb3)
        clear d0 d1 hlB
        cases hw : wrongB 1 [putOp l[k]] with
        | some f =>
          obtain ⟨fk, fp⟩ := f
          have hkd := wrongB_kind hw
          have hne : ((fk : Int) == 0) = false := by rw [beq_eq_false_iff_ne]; omega
          have HN : Hid (laidS (l.take (k + 1)) = laidS (l.take k)) := Lib.hid (by rw [HT.out]; unfold applyS; rw [hw])
          unfold refFaultV
          simp only []
          clear hw hkd
          have t4 : Below w3.heap.size w3 (w3.alloc (.cells #[.int .i64 fk, .int .i64 fp] 69)) := (Below.refl _ w3).alloc (Nat.le_refl _) _
          have HO4 := Lib.hid (HO3.out.below t4)
          have HB4 := Lib.hid (HB3.out.tn t4)
          go_wp2_with fail
          refine ⟨⟨k + 1, by omega, by omega, rfl, by rw [HN.out]; exact HO4.out, HB4.out⟩, ?_⟩
          simp [intOf]
          omega
        | none =>
          have HN : Hid (laidS (l.take (k + 1)) = foldS (laidS (l.take k)) [putOp l[k]]) := Lib.hid (by rw [HT.out]; unfold applyS; rw [hw])
          unfold refFaultV
          simp only []
          clear hw
          have t4 : Below w3.heap.size w3 (w3.alloc (.cells #[.int .i64 0, .int .i64 0] 69)) := (Below.refl _ w3).alloc (Nat.le_refl _) _
          have HO4 := Lib.hid (HO3.out.below t4)
          have HB4 := Lib.hid (HB3.out.tn t4)
          have HP4 := Lib.hid (HP3.out.below t4)
          have HD4 := Lib.hid (below_at t4 (block_lt HD3.out) HD3.out)
          have d0 := cell_of_row _ _ 0 _ _ _ HD4.out
          have d1 := cell_of_row _ _ 1 _ _ _ HD4.out
          have hlB := block_lt HD4.out
          have hgl : (laidS (l.take k)).length ≤ 900000000 := by have := HG.out.len; rw [List.length_take] at this; omega
          go_upto_region 8 with fail
          generalize w3.alloc (.cells #[.int .i64 0, .int .i64 0] 69) = w4 at *
          go_wp2_with fail
          refine (refFold_any _ _ 1 (laidS (l.take k)) [putOp l[k]] w4 HO4.out HP4.out HG.out.sorted hgl (by simp) (fun o ho => by rw [List.mem_singleton.1 ho]; exact .inl rfl)).mono ?_
          rintro e w5 ⟨v5, rfl, hv5, -, hb5⟩
          obtain ⟨va5, vcap5, rfl, -, -⟩ := hv5.opened
          have HV5 := Lib.hid hv5
          clear hv5 d0 d1 hlB
          go_wp2_with fail
          refine ⟨⟨k + 1, by omega, by omega, rfl, by rw [HN.out]; exact HV5.out, HB4.out.tn hb5⟩, ?_⟩
          simp [intOf]
          omega
    · have hend : (¬ (k : Int) < l.length) ∨ ((k : Int) < l.length ∧ ¬ (k : Int) < 300) := by omega
      have HE : Hid (laidS (l.take k) = laidS (l.take 300)) := Lib.hid (by
        congr 1
        by_cases h3 : k < 300
        · rw [List.take_of_length_le (by omega), List.take_of_length_le (by omega)]
        · rw [show k = 300 by omega])
      have HO := Lib.hid hov
      have HB := Lib.hid hbr
      obtain ⟨va, vcap, rfl, -, -⟩ := hov.opened
      clear hgo hov hbr
      rcases hend with h0 | ⟨h0, h9⟩
      all_goals
        go_wp2_with fail
        go_ret
        exact ⟨⟨_, rfl, by rw [← HE.out]; exact HO.out⟩, HB.out⟩
theorem bytes_set0 {w : World} {g n cap : Nat} {l : List UInt8} (h : BytesAt w (.slice (some ⟨g, 0, none⟩) n cap) l) (hn : n = l.length) (i : Nat) (_hi : i < l.length) (x : UInt8) :
    BytesAt (w.setCell ⟨g, i, none⟩ (.int .u8 x.toNat)) (.slice (some ⟨g, 0, none⟩) n cap) (l.set i x) := by
  subst hn
  obtain ⟨a, cap', he, hc, hx⟩ := h.opened
  cases he
  rw [show l.length = (l.set i x).length by simp]
  refine BytesAt.mk' (by simpa using hc) fun j hj => ⟨g, 0, rfl, ?_⟩
  obtain ⟨b', off', ha, hcell⟩ := hx j (by simpa using hj)
  cases ha
  by_cases hij : i = j
  · subst hij
    rw [Nat.zero_add] at hcell ⊢
    rw [World.cell?_setCell_same (h := hcell)]
    simp
  · rw [World.cell?_setCell_other (h := by simp), hcell]
    simp [hij]
theorem own_byte {w : World} {base g n cap : Nat} {l : List UInt8} (h : OwnS w base 1 (.slice (some ⟨g, 0, none⟩) n cap) n (u8s l)) (i : Nat) (hi : i < l.length) :
    w.cell? ⟨g, i, none⟩ = some (.int .u8 (l[i].toNat : Int)) ∧ w.frozen? ⟨g, i, none⟩ = false := by
  obtain ⟨hl, hx | ⟨g', off, cap2, he, _, _, hn, _, hc, hf⟩⟩ := h
  · cases hx.1
  · cases he
    rw [u8s_length] at hl
    have e1 := hc i (by rw [u8s_length]; exact hi)
    have e2 := (hf i (by omega)).2
    rw [Nat.zero_add] at e1 e2
    refine ⟨?_, e2⟩
    rw [e1]
    simp only [u8s, List.getElem_map]
theorem laid_len (l : List E) : (laidS l).length ≤ l.length := by
  have key : ∀ (l : List E) (S : List E) (m : Nat), TabGood m S → (l.foldl (fun S x => applyS 1 S [putOp x]) S).length ≤ S.length + l.length := by
    intro l
    induction l with
    | nil => intro S m _; exact Nat.le_refl _
    | cons x l ih =>
      intro S m h
      have h1 := ih _ _ (h.apply 1 [putOp x])
      have h2 : (applyS 1 S [putOp x]).length ≤ S.length + 1 := by
        unfold applyS
        cases wrongB 1 [putOp x] with
        | none => exact length_fold [putOp x] h.sorted
        | some f => exact Nat.le_succ _
      rw [List.foldl_cons, List.length_cons]
      omega
  have := key l [] 0 (TabGood.nil 0)
  simpa [laidS] using this
theorem entsB_le : ∀ {S : List E}, (∀ x ∈ S, EntGood x) → (entsB S).length ≤ 11 * S.length
  | [], _ => Nat.zero_le _
  | x :: S, h => by
    have ih := entsB_le (S := S) (fun y hy => h y (by simp [hy]))
    obtain ⟨g0, g2, g3, g4⟩ := h x (by simp)
    have l1 := isKeyB_length g3
    have l2 := isValueB_length g0 g2 g4
    have hT : x.1.1 = 0 ∨ x.1.1 = 1 ∨ x.1.1 = 2 := by omega
    have h3 : (entBytes x).length ≤ 11 := by
      unfold entBytes
      simp only [List.length_cons, List.length_append, l1, l2]
      rcases hT with e | e | e <;> (rw [e]; decide)
    show (entBytes x ++ entsB S).length ≤ _
    rw [List.length_append, List.length_cons]
    omega
set_option maxRecDepth 100000 in
set_option maxHeartbeats 2000000 in
theorem States_walk (x : Int) (sv : Value) (l : List E) (s : List UInt8) (at' c : Int) (w : World) (h : EntsAt w sv l) (hm : l.length ≤ 1000000000000000) (hfit : ∀ x ∈ l, OpsFit [putOp x]) (hg : ShapesVar w) (hge : ErrVar w)
    (lo : 0 ≤ x) (hi : x < 18446744073709551616) (hsl : s.length ≤ 140737488351232) (h1 : -9223372036854775808 ≤ at') (h2 : at' ≤ 9223372036854775807) (h3 : -9223372036854775808 ≤ c) (_h4 : c ≤ 9223372036854775807) :
    Calls Tryz.prog 6 #[.int .u64 x, sv, .string ⟨s.toArray⟩, .int .i64 at', .int .i64 c] w fun e w' => e = .returned (.bool true) ∧ Below w.heap.size w w' := by
  obtain ⟨v, rfl⟩ := Int.eq_ofNat_of_zero_le lo
  have hv64 : v < 18446744073709551616 := by omega
  have hsm : s.length ≤ maxB := by unfold maxB; omega
  obtain ⟨T, hT⟩ : ∃ T, T = laidS (l.take 300) := ⟨_, rfl⟩
  have hTg : TabGood 2400 T := by rw [hT]; exact (laid_good (l.take 300)).mono (by rw [List.length_take]; omega)
  have hTl : T.length ≤ 300 := by
    have := laid_len (l.take 300)
    rw [← hT, List.length_take] at this
    omega
  have hAl : (allB v T).length ≤ 3310 := by
    have := entsB_le hTg.good
    unfold allB
    simp only [List.length_append, be8_length, List.length_cons, List.length_nil]
    omega
  have hfit3 : ∀ x ∈ l.take 300, OpsFit [putOp x] := fun x hx => hfit x (List.mem_of_mem_take hx)
  have hTT := hT
  have HLIM := Lib.hid (fun W b => limited_any sv l W (h.below b) hm)
  have HPRO : Hid (∀ W, Below w.heap.size w W → Calls Tryz.prog 38 #[sv] W fun e w' => (∃ v', e = .returned v' ∧ EntsAt w' v' T) ∧ Below W.heap.size W w') := Lib.hid (fun W b => by rw [hTT]; exact proper_any sv l W (h.below b) hfit hm)
  have HG := Lib.hid hg
  have HGE := Lib.hid hge
  have HST := Lib.hid (fun W u (hu : u.length ≤ maxB) b => stated_any u W (HG.out.new b) (HGE.out.new b) hu)
  have HONE := Lib.hid (fun W b => stated_any [0, 0, 0, 0, 0, 0, 0, 7, 0, 0] W (HG.out.new b) (HGE.out.new b) (by simp [maxB]))
  have HTG := Lib.hid hTg
  have HT := Lib.hid hT
  have HF3 := Lib.hid hfit3
  clear hg hge h hfit hTg hT hfit3 hTT lo hi hm
  go_enter Tryz.func6, Tryz.ntmps6
  go_wp2_with fail
  refine (HONE.out w (Below.refl _ _)).mono ?_
  rintro e w1 ⟨rfl, b1⟩
  go_wp2_with fail
  refine (HST.out w1 s hsm b1).mono ?_
  rintro e w2 ⟨rfl, hb2⟩
  have b2 := b1.tn hb2
  go_wp2_with fail
  refine (HLIM.out w2 b2).mono ?_
  rintro e w3 ⟨lv, rfl, hlv, rfl⟩
  have HLV := Lib.hid hlv
  clear hlv
  cases hver : isVersionB v with
  | false =>
    have HPE := Lib.hid (plainEncodeAll_bad v lv (l.take 300) w2 HLV.out (HG.out.new b2) (HGE.out.new b2) HF3.out (by rw [List.length_take]; omega) hver)
    have HRE := Lib.hid (fun pv W => refEncodeAll_bad v pv W hv64 hver)
    clear hver
    go_wp2_with fail
    refine HPE.out.mono ?_
    rintro e w4 ⟨rfl, hb4⟩
    unfold faultV
    have b4 := b2.tn hb4
    have t5 : Below w4.heap.size w4 (w4.alloc (.cells #[.int .i64 4, .int .i64 0, .int .i64 0] 38)) := (Below.refl _ w4).alloc (Nat.le_refl _) _
    have F5 := Lib.hid (heap_new w4 (.cells #[.int .i64 4, .int .i64 0, .int .i64 0] 38))
    have b5 := b4.tn t5
    go_upto_region 4 with fail
    generalize w4.alloc (.cells #[.int .i64 4, .int .i64 0, .int .i64 0] 38) = w5 at *
    go_wp2_with fail
    refine (HPRO.out w5 b5).mono ?_
    rintro e w6 ⟨⟨pv, rfl, hpv⟩, hb6⟩
    have b6 := b5.tn hb6
    have F6 := Lib.hid (below_at hb6 (block_lt F5.out) F5.out)
    clear hpv
    go_wp2_with fail
    refine (HRE.out pv w6).mono ?_
    rintro e w7 ⟨rfl, hb7⟩
    have t8 : Below w7.heap.size w7 (w7.alloc (.cells #[.int .i64 4, .int .i64 0] 69)) := (Below.refl _ w7).alloc (Nat.le_refl _) _
    have b8 := (b6.tn hb7).tn t8
    have F8 := Lib.hid (below_at (hb7.tn t8) (block_lt F6.out) F6.out)
    have G8 := Lib.hid (heap_new w7 (.cells #[.int .i64 4, .int .i64 0] 69))
    have f0 := cell_of_row _ _ 0 _ _ _ F8.out
    have f1 := cell_of_row _ _ 1 _ _ _ F8.out
    have f2 := cell_of_row _ _ 2 _ _ _ F8.out
    have g0 := cell_of_row _ _ 0 _ _ _ G8.out
    have g1 := cell_of_row _ _ 1 _ _ _ G8.out
    have hlf := block_lt F8.out
    have hlg := block_lt G8.out
    go_upto_region 5 with fail
    generalize w7.alloc (.cells #[.int .i64 4, .int .i64 0] 69) = w8 at *
    go_wp2_with fail
    refine (same_true 4 0 _).mono ?_
    rintro e w9 ⟨rfl, hb9⟩
    have G9 := Lib.hid (below_at hb9 (block_lt G8.out) G8.out)
    have g0 := cell_of_row _ _ 0 _ _ _ G9.out
    have hlg := block_lt G9.out
    go_wp2
    go_ret
    exact ⟨rfl, b8.tn hb9⟩
  | true =>
    have hTl2 : T.length < 65536 := by omega
    have HPE := Lib.hid (plainEncodeAll_good v lv (l.take 300) w2 HLV.out (HG.out.new b2) HF3.out (by rw [List.length_take]; omega) (by rw [← HT.out]; exact hTl2) hver (by rw [← HT.out]; exact HTG.out.fit))
    have HRE := Lib.hid (fun pv W hp => refEncodeAll_good v pv T W hp hTl2 hver HTG.out.fit)
    clear hver
    go_wp2_with fail
    refine HPE.out.mono ?_
    rintro e w4 ⟨rfl, hb4⟩
    rw [← HT.out]
    obtain ⟨S, hS⟩ : ∃ S, S = allB v T := ⟨_, rfl⟩
    have hSl : 10 ≤ S.length := by rw [hS]; unfold allB; simp only [List.length_append, be8_length, List.length_cons, List.length_nil]; omega
    have hSu : S.length ≤ 3310 := by rw [hS]; exact hAl
    have HS := Lib.hid hS
    rw [← hS]
    clear hS hAl HPE
    unfold faultV
    have b4 := b2.tn hb4
    have t5 : Below w4.heap.size w4 (w4.alloc (.cells #[.int .i64 0, .int .i64 0, .int .i64 0] 38)) := (Below.refl _ w4).alloc (Nat.le_refl _) _
    have F5 := Lib.hid (heap_new w4 (.cells #[.int .i64 0, .int .i64 0, .int .i64 0] 38))
    have b5 := b4.tn t5
    go_upto_region 4 with fail
    generalize w4.alloc (.cells #[.int .i64 0, .int .i64 0, .int .i64 0] 38) = w5 at *
    go_wp2_with fail
    refine (HPRO.out w5 b5).mono ?_
    rintro e w6 ⟨⟨pv, rfl, hpv⟩, hb6⟩
    have b6 := b5.tn hb6
    have F6 := Lib.hid (below_at hb6 (block_lt F5.out) F5.out)
    have HPV := Lib.hid hpv
    clear hpv
    go_wp2_with fail
    refine (HRE.out pv w6 HPV.out).mono ?_
    rintro e w7 ⟨rfl, hb7⟩
    rw [← HS.out]
    have t8 : Below w7.heap.size w7 (w7.alloc (.cells #[.int .i64 0, .int .i64 0] 69)) := (Below.refl _ w7).alloc (Nat.le_refl _) _
    have b8 := (b6.tn hb7).tn t8
    have F8 := Lib.hid (below_at (hb7.tn t8) (block_lt F6.out) F6.out)
    have G8 := Lib.hid (heap_new w7 (.cells #[.int .i64 0, .int .i64 0] 69))
    have f0 := cell_of_row _ _ 0 _ _ _ F8.out
    have f1 := cell_of_row _ _ 1 _ _ _ F8.out
    have f2 := cell_of_row _ _ 2 _ _ _ F8.out
    have g0 := cell_of_row _ _ 0 _ _ _ G8.out
    have g1 := cell_of_row _ _ 1 _ _ _ G8.out
    have hlf := block_lt F8.out
    have hlg := block_lt G8.out
    go_upto_region 5 with fail
    generalize w7.alloc (.cells #[.int .i64 0, .int .i64 0] 69) = w8 at *
    go_wp2_with fail
    refine (same_true 0 0 _).mono ?_
    rintro e w9 ⟨rfl, hb9⟩
    have b9 := b8.tn hb9
    have G9 := Lib.hid (below_at hb9 (block_lt G8.out) G8.out)
    have g0 := cell_of_row _ _ 0 _ _ _ G9.out
    have hlg := block_lt G9.out
    have hss : (S == S) = true := beq_self_eq_true S
    clear f0 f1 f2 g1 hlf
    obtain ⟨p1, p2⟩ := pickN_bound at' (S.length) (by omega)
    obtain ⟨m, hm⟩ := Int.eq_ofNat_of_zero_le p1
    have hmS : m < S.length := by omega
    have HM := Lib.hid hm
    have hmi : (m : Int) < (S.length : Int) := by omega
    have hpk := lawPick_any at' S.length
    have HPK := Lib.hid (fun W => hpk W h1 h2 (by omega))
    clear hm hpk p1 p2
    have HC := Lib.hid (byteOf_toNat c)
    have hcut : ∀ w, (Instr.slice 9 (.string ⟨S.toArray⟩) none (some (.int .i64 (m : Int))) none).run Tryz.prog w = .ok (.string ⟨(S.take m).toArray⟩) w := fun w => by
      rw [run_str_to Tryz.underlying9 _ _ _ (by omega) (by omega), Int.toNat_natCast]
    go_wp2_with fail
    refine (HPK.out _).mono ?_
    rintro e w10 ⟨rfl, rfl⟩
    rw [HM.out]
    have hs9 := b9.size
    go_wp2_with (refine wpList_bytes_of rfl (.tmp 66) rfl S rfl (by unfold maxB; omega) ?_; intro cap w11 hown11 hb11 hs11; obtain ⟨hcl, hfr⟩ := own_byte hown11 m hmS)
    have b11 : Below w.heap.size w w11 := b9.tn hb11
    have b12 : Below w.heap.size w (w11.setCell ⟨w9.heap.size, m, none⟩ (.int .u8 (c % 256))) := b11.setCell (p := ⟨w9.heap.size, m, none⟩) hs9 _
    have HBY : Hid (BytesAt (w11.setCell ⟨w9.heap.size, m, none⟩ (.int .u8 (c % 256))) (.slice (some ⟨w9.heap.size, 0, none⟩) S.length cap) (S.set m (byteOf c))) := Lib.hid (by have := bytes_set0 hown11.bytes rfl m hmS (byteOf c); rw [HC.out] at this; exact this)
    refine (HST.out _ S (by unfold maxB; omega) b12).mono ?_
    rintro e w13 ⟨rfl, hb13⟩
    have b13 := b12.tn hb13
    go_wp2_with fail
    refine (HST.out _ (S.take m) (by rw [List.length_take]; unfold maxB; omega) b13).mono ?_
    rintro e w14 ⟨rfl, hb14⟩
    have b14 := b13.tn hb14
    go_wp2_with (refine wpList_string_of rfl (.tmp 79) rfl (S.set m (byteOf c)) (by exact (HBY.out.below hb13).below hb14) ?_)
    refine (HST.out _ (S.set m (byteOf c)) (by rw [List.length_set]; unfold maxB; omega) b14).mono ?_
    rintro e w15 ⟨rfl, hb15⟩
    have b15 := b14.tn hb15
    go_wp2_with (refine wpList_add_str rfl (.tmp 82) (.tmp 83) rfl S s rfl rfl (by omega) ?_)
    refine (HST.out _ (S ++ s) (by rw [List.length_append]; unfold maxB; omega) b15).mono ?_
    rintro e w16 ⟨rfl, hb16⟩
    go_wp2
    go_ret
    exact ⟨rfl, b15.tn hb16⟩
end Go.Proofs.YtkkfmkhbdoeglaaGreatDoor

/- What arguments are in memory: package plain's entries. -/
namespace Go.Proofs.YtkkfmkhbdoeglaaGreatDoor
open Go.ChangeShapes Go.WideShapes Go.ChangeAt Go.RowKit Go.Deep

theorem length_three {cs : List Value} (h : cs.length = 3) : ∃ a b c, cs = [a, b, c] := by
  match cs, h with
  | [a, b, c], _ => exact ⟨a, b, c, rfl⟩
theorem cEntry : Tryz.prog.cellsOf 123 = 3 := by kernel_rfl
theorem bytesEntry : Tryz.prog.bytesOf 123 = 40 := by kernel_rfl
def EntryR (_ : World) (cs : List Value) (x : E) : Prop := cs = [.int .i64 x.1.1, .string ⟨x.1.2.toArray⟩, .string ⟨x.2.toArray⟩] ∧ x.1.2.length ≤ maxB ∧ x.2.length ≤ maxB
theorem opened_entry : Opened 123 EntryR := by
  intro H enc w base spare held fuel cs x h hw
  obtain ⟨hl, a, ha⟩ := open_field Tryz.underlying123 h hw 0 _ rfl opened_i64
  obtain ⟨-, k, hk⟩ := open_field Tryz.underlying123 h hw 1 _ rfl opened_str
  obtain ⟨-, s, hs⟩ := open_field Tryz.underlying123 h hw 2 _ rfl opened_str
  have ha : I64 w ((cs.drop 0).take (Tryz.prog.cellsOf 3)) a := ha
  have hk : StrR w ((cs.drop 1).take (Tryz.prog.cellsOf 9)) k := hk
  have hs : StrR w ((cs.drop 2).take (Tryz.prog.cellsOf 9)) s := hs
  rw [cInt] at ha
  rw [cStr] at hk hs
  rw [cEntry] at hl
  obtain ⟨c0, c1, c2, rfl⟩ := length_three hl
  obtain ⟨h1, -⟩ := ha
  obtain ⟨h2, hl2⟩ := hk
  obtain ⟨h3, hl3⟩ := hs
  simp at h1 h2 h3
  subst h1 h2 h3
  exact ⟨((a, k), s), rfl, le_maxB hl2, le_maxB hl3⟩
def EntriesR := SliceR 3 3518437208883 EntryR
theorem opened_entries : Opened 43 EntriesR := opened_slice Tryz.underlying43 cEntry (by omega) (fun n h => by rw [bytesEntry] at h; unfold reachBytes at h; omega) opened_entry
theorem EntriesR.view {w : World} {v : Value} {l : List E} (h : EntriesR w [v] l) : l.length ≤ 1000000000000000 ∧ (∀ x ∈ l, OpsFit [putOp x]) ∧ EntsAt w v l := by
  obtain ⟨hm, a, cap, hv, hc, hx⟩ := h
  cases hv
  refine ⟨by omega, fun o ho => ?_, ?_⟩
  · obtain ⟨i, hi, rfl⟩ := List.getElem_of_mem ho
    obtain ⟨b, off, -, cs', -, -, hr⟩ := hx i hi
    intro o ho
    rw [List.mem_singleton] at ho
    subst ho
    exact ⟨hr.2.1, hr.2.2⟩
  · refine ⟨entCells_length l, a, cap, rfl, hc, fun k hk => ?_⟩
    have hpos : 0 < l.length := by rw [entCells_length] at hk; omega
    obtain ⟨b, off, rfl, -⟩ := hx 0 hpos
    refine ⟨b, off, rfl, flatCells (C := 3) (n := l.length) (by omega) (entCells_length l) (fun i hi j hj => ?_) k hk⟩
    obtain ⟨b', off', he, cs', hl, hat, hr⟩ := hx i hi
    cases he
    rw [hat j hj, hr.1]
    obtain ⟨e0, e1, e2⟩ := entCells_at l i hi
    match j, hj with
    | 0, _ => exact e0.symm
    | 1, _ => exact e1.symm
    | 2, _ => exact e2.symm
end Go.Proofs.YtkkfmkhbdoeglaaGreatDoor

namespace Go.Proofs.YtkkfmkhbdoeglaaGreatDoor.statesLaw
open Go.ChangeShapes Go.WideShapes Go.ChangeAt Go.RowKit

theorem vars {W : World} (hs : 2 ≤ W.heap.size) (h : laidMetH Tryz.prog Rows.statesRow.laid W) : ErrVar W ∧ ShapesVar W :=
  ⟨⟨hs, errCell_of_handles (List.mem_singleton.2 rfl) (show laidMet Tryz.prog [("overlay/overlay.shapes", Rows.laid_overlay_overlay_shapes)] W ∧ handlesMet Tryz.prog [("errors.errorType", Rows.laid_errors_errorType)] W from h).2⟩, shapes_of_laid hs (show laidMet Tryz.prog [("overlay/overlay.shapes", Rows.laid_overlay_overlay_shapes)] W ∧ handlesMet Tryz.prog [("errors.errorType", Rows.laid_errors_errorType)] W from h).1⟩
theorem laid_met (os : Os) : laidMetH Tryz.prog Rows.statesRow.laid ((laidWorld os).forCall (fun _ _ => 0) ⟨#[], #[.int .u64 0, .slice none 0 0, .string ByteArray.empty, .int .i64 0, .int .i64 0], []⟩).memory :=
  laidMetH_of_parts (shapes_met os _) (by kernel_rfl)

set_option maxRecDepth 100000 in
theorem contract (H : Type) (enc : TypeId × Value → H) (W : World) (base : Nat) (args : Array Value) (ds gs : List (DataW H)) (before : List MemPlace)
    (hval : ∀ (j : Nat) t v, Tryz.f6.params[j]? = some t → args[j]? = some v → Value.okWide Tryz.prog W .any base t v)
    (hW : DataW.Whole enc Tryz.prog Tryz.f6.params.toList Rows.statesSpec.vars false W args.toList ds gs before) (hL : laidMetH Tryz.prog Rows.statesRow.laid W)
    (hz : (DataW.weightsEach Tryz.prog (Tryz.f6.params.toList ++ (OpenSpec.ofChange Rows.statesSpec).bare.plain.varTypes Tryz.prog) (ds ++ gs)).all (· ≤ reachBytes) = true) (hsh : W.ShapedOpen Tryz.prog) :
    Calls Tryz.prog 6 args W fun e W' => ∃ v, e = .returned v ∧ Rows.statesSpec.post enc Tryz.prog Tryz.f6 false true false false W args v W' := by
  have hsize := twoBlocks hsh
  clear hsh
  have hW' := hW
  have hvars := vars hsize hL
  obtain ⟨p, q, hA0, hV, rfl, hfz, hnd⟩ := hW
  have hA : DataW.TrodAll enc Tryz.prog W 0 (fun _ => true) true Tryz.f6.params.toList args.toList ds p := hA0
  rw [Tryz.params6] at hA hval hz
  have HZ := Lib.hid hz
  clear hz hA0 hL
  obtain ⟨v0, vs0, d0, ds0, p0, q0, hargs, rfl, rfl, h0, r0⟩ := trodAll_cons hA
  obtain ⟨v1, vs1, d1, ds1, p1, q1, rfl, rfl, rfl, h1, r1⟩ := trodAll_cons r0
  obtain ⟨v2, vs2, d2, ds2, p2, q2, rfl, rfl, rfl, h2, r2⟩ := trodAll_cons r1
  obtain ⟨v3, vs3, d3, ds3, p3, q3, rfl, rfl, rfl, h3, r3⟩ := trodAll_cons r2
  obtain ⟨v4, vs4, d4, ds4, p4, q4, rfl, rfl, rfl, h4, r4⟩ := trodAll_cons r3
  obtain ⟨rfl, rfl, rfl⟩ := trodAll_nil r4
  obtain rfl : args = #[v0, v1, v2, v3, v4] := by
    obtain ⟨l⟩ := args
    exact congrArg Array.mk hargs
  obtain ⟨rfl, rfl⟩ := trodVars_none hV
  obtain ⟨x0, rfl, wf0⟩ := arg_int Tryz.underlying26 (hval 0 26 v0 rfl rfl) h0
  obtain ⟨lo0, hi0⟩ := bounds_u64 wf0
  obtain ⟨l1, hl1⟩ := arg_slice Tryz.underlying43 (hval 1 43 v1 rfl rfl) h1 (fun h => opened_entries h (weight_at HZ.out 1 rfl rfl))
  obtain ⟨l2, rfl, hl2⟩ := arg_string Tryz.underlying9 (hval 2 9 v2 rfl rfl) h2 (fun h => opened_str h (weight_at HZ.out 2 rfl rfl))
  obtain ⟨x3, rfl, wf3⟩ := arg_int Tryz.underlying3 (hval 3 3 v3 rfl rfl) h3
  obtain ⟨lo3, hi3⟩ := bounds_i64 wf3
  obtain ⟨x4, rfl, wf4⟩ := arg_int Tryz.underlying3 (hval 4 3 v4 rfl rfl) h4
  obtain ⟨lo4, hi4⟩ := bounds_i64 wf4
  obtain ⟨hm1, hfit1, hat1⟩ := hl1.view
  refine (States_walk x0 _ l1 l2 x3 x4 W hat1 hm1 hfit1 hvars.2 hvars.1 lo0 (by omega) hl2 lo3 hi3 lo4 hi4).mono fun e W' ⟨he, hb⟩ => ?_
  subst he
  exact ⟨_, rfl, law_post hW' rfl (by kernel_rfl) Tryz.underlying4 rfl rfl rfl laidOut (by decide +kernel) hb⟩

theorem reads (os : Os) {H : Type} (enc : TypeId × Value → H) : ∃ places, DataW.whole enc Tryz.prog ((laidWorld os).forCall (fun _ _ => 0) ⟨#[], #[.int .u64 0, .slice none 0 0, .string ByteArray.empty, .int .i64 0, .int .i64 0], []⟩).memory Tryz.f6.params.toList Rows.statesSpec.vars false (#[.int .u64 0, .slice none 0 0, .string ByteArray.empty, .int .i64 0, .int .i64 0] : Array Value).toList 8 = some ([.lit (.int .u64 0), .nil, .lit (.string []), .lit (.int .i64 0), .lit (.int .i64 0)], [], places) :=
  ⟨[], by kernel_rfl⟩
set_option maxRecDepth 100000 in
theorem lifted (os : Os) (started : os.Started) (H : Type) (enc : TypeId × Value → H) (F : Stop.Interp) :
    ReturnsInHanded {} Tryz.checked os 6 .any ((OpenSpec.ofChange Rows.statesSpec).preRow enc Tryz.prog Tryz.f6 Rows.statesRow.domain false Rows.statesRow.laid) (((OpenSpec.ofChange Rows.statesSpec).at F).post enc Tryz.prog Tryz.f6 false true false false) := by
  obtain ⟨places, hx⟩ := reads os enc
  refine returnsInHanded_of_row (C := Tryz.checked) (s := OpenSpec.ofChange Rows.statesSpec) own started (by kernel_rfl) Tryz.func6
    (witness_row_at (enc := enc) (C := Tryz.checked) false (laidWorld os) #[.int .u64 0, .slice none 0 0, .string ByteArray.empty, .int .i64 0, .int .i64 0] rfl (by kernel_rfl) (by kernel_rfl) (by kernel_rfl)
      (OpenSpec.preRow_of_cond 8 hx (by kernel_rfl) (fun k hk => by cases hk) (by kernel_rfl) (laid_met os))) ?_
  intro W base args ds gs before hval hW _ _ hz hL hsh _
  exact contract H enc W base args ds gs before hval hW hL hz hsh
theorem said : Rows.StatesSaid :=
  OpenClaim.holds_of_cond 6 Tryz.f6 rfl rfl rfl rfl rfl rfl rfl ⟨rfl, rfl, rfl, rfl, rfl⟩ rfl rfl rfl rfl rfl (by kernel_rfl) Tryz.func6 (by kernel_rfl)
    (of_decide_eq_true (by kernel_rfl)) (by unfold Func.isWrapper; first | (rw [if_pos (by decide +kernel)]; kernel_rfl) | (rw [if_neg (by decide +kernel)]; exact ⟨rfl, rfl⟩))
    (fun os started H enc _ F => by rw [OpenClaim.pre_eq_preRow]; exact lifted os started H enc F)
theorem plain (f : FuncId) (fn : Func) (hf : Tryz.pinned.checked.prog.funcNamed "overlay/overlaylaw.States" = some f) (hfn : Tryz.pinned.checked.prog.funcs[f]? = some fn) :
    true = Tryz.pinned.checked.prog.looks [] ∧ ∀ (j : Nat) t, fn.params[j]? = some t → Tryz.pinned.checked.prog.wantsStandIn t = false := by
  obtain rfl : f = 6 := Option.some.inj ((show Tryz.prog.funcNamed "overlay/overlaylaw.States" = some 6 by kernel_rfl).symm.trans hf) |>.symm
  obtain rfl : fn = Tryz.f6 := (Option.some.inj (Tryz.func6.symm.trans hfn)).symm
  refine ⟨by kernel_rfl, fun j t ht => ?_⟩
  rw [Tryz.params6] at ht
  have hm := Array.mem_of_getElem? ht
  simp only [List.mem_toArray, List.mem_cons, List.not_mem_nil, or_false] at hm
  have hall : ∀ t ∈ [26, 43, 9, 3, 3], Tryz.prog.wantsStandIn t = false := by
    intro t ht
    simp only [List.mem_cons, List.not_mem_nil, or_false] at ht
    rcases ht with rfl | rfl | rfl | rfl | rfl <;> kernel_rfl
  exact hall t (by simpa using hm)
/-- The card. -/
theorem card : Rows.StatesCardSaid :=
  Claim7.holds_tied_plain_at .later [] _ _ _ _ said (fun _ h => by cases h) (by kernel_rfl) (fun _ h => by cases h) states_row_tie rfl ⟨rfl, rfl⟩ (by kernel_rfl) rfl plain (by kernel_rfl)
end Go.Proofs.YtkkfmkhbdoeglaaGreatDoor.statesLaw
