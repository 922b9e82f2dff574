/- A part of what is proved here: lemmas and contracts of single functions. No condition but those that each names. -/
import Derived.Test.YtkkfmkhbdoeglabGreatDoorG24
import Derived.Test.YtkkfmkhbdoeglabGreatDoorG26
import Derived.Test.YtkkfmkhbdoeglabGreatDoorG30
import Derived.Test.YtkkfmkhbdoeglabGreatDoorG32
import Derived.Test.YtkkfmkhbdoeglabGreatDoorG33
namespace Go.Proofs.YtkkfmkhbdoeglabGreatDoor
open Go.RowKit
theorem EntsAt.take {w : World} {a : Option Addr} {n cap : Nat} {l : List E} (h : EntsAt w (.slice a n cap) l) (k : Nat) (hk : k ≤ l.length) : EntsAt w (.slice a k cap) (l.take k) := by
  obtain ⟨hl, a', cap', he, hc, hx⟩ := h
  cases he
  have htl : (l.take k).length = k := by rw [List.length_take]; omega
  have hot : entCells l = entCells (l.take k) ++ entCells (l.drop k) := by rw [← entCells_append, List.take_append_drop]
  refine ⟨entCells_length _, a, cap, by rw [htl], by omega, fun i hi => ?_⟩
  have hi2 : i < (entCells l).length := by rw [hot, List.length_append]; omega
  obtain ⟨b, off, rfl, hcell⟩ := hx i hi2
  refine ⟨b, off, rfl, ?_⟩
  rw [hcell]
  congr 1
  have : (entCells l)[i]? = (entCells (l.take k))[i]? := by rw [hot, List.getElem?_append_left hi]
  rw [List.getElem?_eq_getElem hi2, List.getElem?_eq_getElem hi] at this
  exact Option.some.inj this
theorem limited_any (v : Value) (l : List E) (w : World) (h : EntsAt w v l) (hm : l.length ≤ 1000000000000000) :
    Calls Tryz.prog 18 #[v] w fun e w' => ∃ v', e = .returned v' ∧ EntsAt w v' (l.take 300) ∧ w = w' := by
  obtain ⟨a, cap, rfl, hc, -⟩ := h.opened
  have H := Lib.hid h
  clear h
  by_cases h3 : 300 < l.length
  · have h3' : (300 : Int) < l.length := by omega
    have hc3 : 300 ≤ cap := by omega
    go_enter Tryz.func18, Tryz.ntmps18
    go_wp2
    go_ret
    exact ⟨_, rfl, H.out.take 300 (by omega), rfl⟩
  · have h3' : ¬ (300 : Int) < l.length := by omega
    go_enter Tryz.func18, Tryz.ntmps18
    go_wp2
    go_ret
    exact ⟨_, rfl, by rw [List.take_of_length_le (by omega)]; exact H.out, rfl⟩
/-- what holds at proper's loop -/
def ProperRel (w : World) (l : List E) (ov i : Value) (wr : World) : Prop :=
  ∃ k : Nat, k ≤ l.length ∧ k ≤ 300 ∧ i = .int .i64 (k : Int) ∧ EntsAt wr ov (laidS (l.take k)) ∧ Below w.heap.size w wr
set_option maxRecDepth 100000 in
set_option maxHeartbeats 2000000 in
theorem proper_any (v : Value) (l : List E) (w : World) (h : EntsAt w v l) (hfit : ∀ x ∈ l, OpsFit [putOp x]) (hm : l.length ≤ 1000000000000000) :
    Calls Tryz.prog 13 #[v] w fun e w' => (∃ v', e = .returned v' ∧ EntsAt w' v' (laidS (l.take 300))) ∧ Below w.heap.size w w' := by
  obtain ⟨a, cap, rfl, hc, -⟩ := h.opened
  have HL := Lib.hid h
  have HF := Lib.hid hfit
  clear h hfit
  go_enter Tryz.func13, Tryz.ntmps13
  go_wp2_with fail
  go_loopw [3, 4] (fun ov i wr => ProperRel w l ov i wr) (fun _ i _ => l.length - (intOf i).toNat)
  case atStart => exact ⟨0, Nat.zero_le _, by omega, rfl, SliceAt.nil _ _ _ _, Below.refl _ _⟩
  case round =>
    obtain ⟨k, hk, hk3, rfl, hov, hbr⟩ := hrel
    have hsr := hbr.size
    by_cases hgo : k < l.length ∧ k < 300
    · obtain ⟨hlt, h3⟩ := hgo
      have hlt' : (k : Int) < l.length := by omega
      have h3' : (k : Int) < 300 := by omega
      obtain ⟨a', cap', he, -, hcell⟩ := (HL.out.below hbr).opened
      cases he
      obtain ⟨ob, oo, rfl, c0, c1, c2⟩ := hcell k hlt
      have lob := cell_lt c0
      have HT := Lib.hid (laidS_take l k hlt)
      have hF := HF.out l[k] (List.getElem_mem hlt)
      have HG := Lib.hid (laid_good (l.take k))
      have HO := Lib.hid hov
      have HB := Lib.hid hbr
      obtain ⟨va, vcap, rfl, -, -⟩ := hov.opened
      clear hcell hov hbr
      go_upto_region 5 with fail
      go_cut [5] from 7 to 43 (fun d wx => ∃ B sv, d = .pointer (some ⟨B, 0, none⟩) ∧ wx.heap[B]? = some (.cells #[.int .u64 1, sv] 51 (0, 0)) ∧ OpsAt wx sv [putOp l[k]] ∧ Below wr.heap.size wr wx)
      case first =>
        go_region
        all_goals
          go_wp2_with fail
          go_meet
        · have h1 := heap_new (wr.alloc (.cells #[.int .i64 (putOp l[k]).kind, .int .i64 (putOp l[k]).table, .string ⟨(putOp l[k]).key.toArray⟩, .string ⟨(putOp l[k]).val.toArray⟩] 105)) (.cells #[.int .u64 1, .slice (some ⟨wr.heap.size, 0, none⟩) 1 1] 51)
          rw [World.size_alloc] at h1
          exact ⟨wr.heap.size + 1, _, rfl, h1, (oneOp_at wr (putOp l[k])).below ((Below.refl _ _).alloc (Nat.le_refl _) _).drew, (((Below.refl _ wr).alloc (Nat.le_refl _) _).alloc (by simp) _).drew⟩
        · have h1 := oneOp_at (wr.alloc (.cells #[.int .u64 1, .slice (some ⟨wr.heap.size + 1, 0, none⟩) 1 1] 51)) (putOp l[k])
          rw [World.size_alloc] at h1
          exact ⟨wr.heap.size, _, rfl, heap_old _ _ (heap_new wr _), h1.below (Below.refl _ _).drew, (((Below.refl _ wr).alloc (Nat.le_refl _) _).alloc (by simp) _).drew⟩
      case rest =>
        obtain ⟨B, sv, rfl, hBx, hops, hbx⟩ := hcut
        obtain ⟨sa, scap, rfl, -⟩ := hops.opened
        have HOc := Lib.hid (HO.out.below hbx)
        have HBc := Lib.hid (HB.out.tn hbx)
        have HD := Lib.hid hBx
        have HP := Lib.hid hops
        have d0 := cell_of_row _ _ 0 _ _ _ hBx
        have d1 := cell_of_row _ _ 1 _ _ _ hBx
        have hlB := block_lt hBx
        clear c0 c1 c2 lob HO HB hBx hops hbx
        go_wp2_with fail
        refine (refWrong_any 1 _ [putOp l[k]] wc HP.out hF (by omega)).mono ?_
        rintro e w3 ⟨rfl, hb3⟩
        have HO3 := Lib.hid (HOc.out.below hb3)
        have HB3 := Lib.hid (HBc.out.tn hb3)
        have HD3 := Lib.hid (below_at hb3 hlB HD.out)
        have HP3 := Lib.hid (HP.out.below hb3)
        clear d0 d1 hlB
        cases hw : wrongB 1 [putOp l[k]] with
        | some f =>
          obtain ⟨fk, fp⟩ := f
          have hkd := wrongB_kind hw
          have hne : ((fk : Int) == 0) = false := by rw [beq_eq_false_iff_ne]; omega
          have HN : Hid (laidS (l.take (k + 1)) = laidS (l.take k)) := Lib.hid (by rw [HT.out]; unfold applyS; rw [hw])
          unfold refFaultV
          simp only []
          clear hw hkd
          have t4 : Below w3.heap.size w3 (w3.alloc (.cells #[.int .i64 fk, .int .i64 fp] 31)) := (Below.refl _ w3).alloc (Nat.le_refl _) _
          have HO4 := Lib.hid (HO3.out.below t4)
          have HB4 := Lib.hid (HB3.out.tn t4)
          go_wp2_with fail
          refine ⟨⟨k + 1, by omega, by omega, rfl, by rw [HN.out]; exact HO4.out, HB4.out⟩, ?_⟩
          simp [intOf]
          omega
        | none =>
          have HN : Hid (laidS (l.take (k + 1)) = foldS (laidS (l.take k)) [putOp l[k]]) := Lib.hid (by rw [HT.out]; unfold applyS; rw [hw])
          unfold refFaultV
          simp only []
          clear hw
          have t4 : Below w3.heap.size w3 (w3.alloc (.cells #[.int .i64 0, .int .i64 0] 31)) := (Below.refl _ w3).alloc (Nat.le_refl _) _
          have HO4 := Lib.hid (HO3.out.below t4)
          have HB4 := Lib.hid (HB3.out.tn t4)
          have HP4 := Lib.hid (HP3.out.below t4)
          have HD4 := Lib.hid (below_at t4 (block_lt HD3.out) HD3.out)
          have d0 := cell_of_row _ _ 0 _ _ _ HD4.out
          have d1 := cell_of_row _ _ 1 _ _ _ HD4.out
          have hlB := block_lt HD4.out
          have hgl : (laidS (l.take k)).length ≤ 900000000 := by have := HG.out.len; rw [List.length_take] at this; omega
          go_upto_region 8 with fail
          generalize w3.alloc (.cells #[.int .i64 0, .int .i64 0] 31) = w4 at *
          go_wp2_with fail
          refine (refFold_any _ _ 1 (laidS (l.take k)) [putOp l[k]] w4 HO4.out HP4.out HG.out.sorted hgl (by simp) (fun o ho => by rw [List.mem_singleton.1 ho]; exact .inl rfl)).mono ?_
          rintro e w5 ⟨v5, rfl, hv5, -, hb5⟩
          obtain ⟨va5, vcap5, rfl, -, -⟩ := hv5.opened
          have HV5 := Lib.hid hv5
          clear hv5 d0 d1 hlB
          go_wp2_with fail
          refine ⟨⟨k + 1, by omega, by omega, rfl, by rw [HN.out]; exact HV5.out, HB4.out.tn hb5⟩, ?_⟩
          simp [intOf]
          omega
    · have hend : (¬ (k : Int) < l.length) ∨ ((k : Int) < l.length ∧ ¬ (k : Int) < 300) := by omega
      have HE : Hid (laidS (l.take k) = laidS (l.take 300)) := Lib.hid (by
        congr 1
        by_cases h3 : k < 300
        · rw [List.take_of_length_le (by omega), List.take_of_length_le (by omega)]
        · rw [show k = 300 by omega])
      have HO := Lib.hid hov
      have HB := Lib.hid hbr
      obtain ⟨va, vcap, rfl, -, -⟩ := hov.opened
      clear hgo hov hbr
      rcases hend with h0 | ⟨h0, h9⟩
      all_goals
        go_wp2_with fail
        go_ret
        exact ⟨⟨_, rfl, by rw [← HE.out]; exact HO.out⟩, HB.out⟩
end Go.Proofs.YtkkfmkhbdoeglabGreatDoor
namespace Go.Proofs.YtkkfmkhbdoeglabGreatDoor
open Go.ChangeShapes Go.WideShapes Go.ChangeAt Go.RowKit Go.Deep
theorem length_three {cs : List Value} (h : cs.length = 3) : ∃ a b c, cs = [a, b, c] := by
  match cs, h with
  | [a, b, c], _ => exact ⟨a, b, c, rfl⟩
theorem cEntry : Tryz.prog.cellsOf 101 = 3 := by kernel_rfl
theorem bytesEntry : Tryz.prog.bytesOf 101 = 40 := by kernel_rfl
def EntryR (_ : World) (cs : List Value) (x : E) : Prop := cs = [.int .i64 x.1.1, .string ⟨x.1.2.toArray⟩, .string ⟨x.2.toArray⟩] ∧ x.1.2.length ≤ maxB ∧ x.2.length ≤ maxB
theorem opened_entry : Opened 101 EntryR := by
  intro H enc w base spare held fuel cs x h hw
  obtain ⟨hl, a, ha⟩ := open_field Tryz.underlying101 h hw 0 _ rfl opened_i64
  obtain ⟨-, k, hk⟩ := open_field Tryz.underlying101 h hw 1 _ rfl opened_str
  obtain ⟨-, s, hs⟩ := open_field Tryz.underlying101 h hw 2 _ rfl opened_str
  have ha : I64 w ((cs.drop 0).take (Tryz.prog.cellsOf 3)) a := ha
  have hk : StrR w ((cs.drop 1).take (Tryz.prog.cellsOf 9)) k := hk
  have hs : StrR w ((cs.drop 2).take (Tryz.prog.cellsOf 9)) s := hs
  rw [cInt] at ha
  rw [cStr] at hk hs
  rw [cEntry] at hl
  obtain ⟨c0, c1, c2, rfl⟩ := length_three hl
  obtain ⟨h1, -⟩ := ha
  obtain ⟨h2, hl2⟩ := hk
  obtain ⟨h3, hl3⟩ := hs
  simp at h1 h2 h3
  subst h1 h2 h3
  exact ⟨((a, k), s), rfl, le_maxB hl2, le_maxB hl3⟩
def EntriesR := SliceR 3 3518437208883 EntryR
theorem opened_entries : Opened 23 EntriesR := opened_slice Tryz.underlying23 cEntry (by omega) (fun n h => by rw [bytesEntry] at h; unfold reachBytes at h; omega) opened_entry
theorem EntriesR.view {w : World} {v : Value} {l : List E} (h : EntriesR w [v] l) : l.length ≤ 3518437208883 ∧ (∀ x ∈ l, OpsFit [putOp x]) ∧ EntsAt w v l := by
  obtain ⟨hm, a, cap, hv, hc, hx⟩ := h
  cases hv
  refine ⟨by omega, fun o ho => ?_, ?_⟩
  · obtain ⟨i, hi, rfl⟩ := List.getElem_of_mem ho
    obtain ⟨b, off, -, cs', -, -, hr⟩ := hx i hi
    intro o ho
    rw [List.mem_singleton] at ho
    subst ho
    exact ⟨hr.2.1, hr.2.2⟩
  · refine ⟨entCells_length l, a, cap, rfl, hc, fun k hk => ?_⟩
    have hpos : 0 < l.length := by rw [entCells_length] at hk; omega
    obtain ⟨b, off, rfl, -⟩ := hx 0 hpos
    refine ⟨b, off, rfl, flatCells (C := 3) (n := l.length) (by omega) (entCells_length l) (fun i hi j hj => ?_) k hk⟩
    obtain ⟨b', off', he, cs', hl, hat, hr⟩ := hx i hi
    cases he
    rw [hat j hj, hr.1]
    obtain ⟨e0, e1, e2⟩ := entCells_at l i hi
    match j, hj with
    | 0, _ => exact e0.symm
    | 1, _ => exact e1.symm
    | 2, _ => exact e2.symm
end Go.Proofs.YtkkfmkhbdoeglabGreatDoor
