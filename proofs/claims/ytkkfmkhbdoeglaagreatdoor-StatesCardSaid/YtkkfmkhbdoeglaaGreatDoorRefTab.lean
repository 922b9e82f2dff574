/- The contracts of package overlayref's Count, Size, Mac and Acl, and of package overlaylaw's sameEntries. No condition. -/
import Derived.Test.YtkkfmkhbdoeglaaGreatDoorSameE
import Derived.Test.YtkkfmkhbdoeglaaGreatDoorSize
import Derived.Test.YtkkfmkhbdoeglaaGreatDoorApartPlain
import Derived.Test.YtkkfmkhbdoeglaaGreatDoorTabApply
import Derived.Test.YtkkfmkhbdoeglaaGreatDoorLongPlain
import Derived.Test.YtkkfmkhbdoeglaaGreatDoorRefCodecB
namespace Go.Proofs.YtkkfmkhbdoeglaaGreatDoor
open Go.RowKit

theorem filter_snoc' (q : E → Bool) (p : List E) (x : E) : (p ++ [x]).filter q = p.filter q ++ (if q x then [x] else []) := by
  rw [List.filter_append, List.filter_cons]
  cases q x <;> rfl
theorem countS_take (t : Int) (l : List E) (k : Nat) (h : k < l.length) : countS t (l.take (k + 1)) = countS t (l.take k) + if l[k].1.1 = t then 1 else 0 := by
  unfold countS
  rw [List.take_succ_eq_append_getElem h, List.countP_append, List.countP_cons, List.countP_nil]
  simp
theorem sizeS_take (l : List E) (k : Nat) (h : k < l.length) : sizeS (l.take (k + 1)) = sizeS (l.take k) + (1 + l[k].1.2.length + l[k].2.length) := by
  rw [List.take_succ_eq_append_getElem h, sizeS_snoc]
theorem sizeS_mono (l : List E) (k : Nat) : sizeS (l.take k) ≤ sizeS l := by
  have h : sizeS l = sizeS (l.take k) + sizeS (l.drop k) := by
    unfold sizeS
    rw [← List.sum_append_nat, ← List.map_append, List.take_append_drop]
  omega
theorem refCount_any (v : Value) (l : List E) (t : Int) (w : World) (h : EntsAt w v l) (hl : l.length ≤ 1000000000) :
    Calls Tryz.prog 67 #[v, .int .i64 t] w fun e w' => e = .returned (.int .i64 (countS t l : Nat)) ∧ Below w.heap.size w w' := by
  obtain ⟨a, cap, rfl, -, hx⟩ := h.opened
  have HX := Lib.hid hx
  clear hx h
  go_enter Tryz.func67, Tryz.ntmps67
  go_wp2
  go_loopw [5, 6] (fun n i wr => ∃ k : Nat, k ≤ l.length ∧ n = .int .i64 (countS t (l.take k) : Nat) ∧ i = .int .i64 k ∧ ∃ q, wr = w.drewN q) (fun _ i _ => l.length - (intOf i).toNat)
  case atStart => exact ⟨0, Nat.zero_le _, rfl, rfl, 0, rfl⟩
  case round =>
    obtain ⟨k, hk, rfl, rfl, q, rfl⟩ := hrel
    by_cases hlt : k < l.length
    · have hlt' : (k : Int) < l.length := by omega
      obtain ⟨b1, o1, rfl, c0, c1, c2⟩ := HX.out k hlt
      have HC := Lib.hid (countS_take t l k hlt)
      have hc : countS t (l.take k) ≤ k := by
        have := List.countP_le_length (p := fun x : E => decide (x.1.1 = t)) (l := l.take k)
        rw [List.length_take] at this
        unfold countS
        omega
      by_cases ht : l[k].1.1 = t
      · have HC2 : Hid (countS t (l.take (k + 1)) = countS t (l.take k) + 1) := Lib.hid (by rw [HC.out, if_pos ht])
        go_wp2
        exact ⟨⟨k + 1, by omega, by rw [HC2.out]; rfl, rfl, _, rfl⟩, by simp [intOf]; omega⟩
      · have HC2 : Hid (countS t (l.take (k + 1)) = countS t (l.take k)) := Lib.hid (by rw [HC.out, if_neg ht]; rfl)
        go_wp2
        exact ⟨⟨k + 1, by omega, by rw [HC2.out], rfl, _, rfl⟩, by simp [intOf]; omega⟩
    · obtain rfl : k = l.length := by omega
      have hge : ¬ (l.length : Int) < l.length := by omega
      rw [List.take_length]
      go_wp2
      go_ret
      exact ⟨rfl, (Below.refl _ w).drewN q⟩
theorem refSize_any (v : Value) (l : List E) (w : World) (h : EntsAt w v l) (hl : l.length ≤ 1000000000) (hsz : sizeS l ≤ 4611686018427387904) :
    Calls Tryz.prog 65 #[v] w fun e w' => e = .returned (.int .i64 (sizeS l : Nat)) ∧ Below w.heap.size w w' := by
  obtain ⟨a, cap, rfl, -, hx⟩ := h.opened
  have HX := Lib.hid hx
  have HSZ := Lib.hid hsz
  clear hx h hsz
  go_enter Tryz.func65, Tryz.ntmps65
  go_wp2
  go_loopw [3, 4] (fun n i wr => ∃ k : Nat, k ≤ l.length ∧ n = .int .i64 (sizeS (l.take k) : Nat) ∧ i = .int .i64 k ∧ ∃ q, wr = w.drewN q) (fun _ i _ => l.length - (intOf i).toNat)
  case atStart => exact ⟨0, Nat.zero_le _, rfl, rfl, 0, rfl⟩
  case round =>
    obtain ⟨k, hk, rfl, rfl, q, rfl⟩ := hrel
    by_cases hlt : k < l.length
    · have hlt' : (k : Int) < l.length := by omega
      obtain ⟨b1, o1, rfl, c0, c1, c2⟩ := HX.out k hlt
      have HC := Lib.hid (sizeS_take l k hlt)
      have HM := Lib.hid (Nat.le_trans (sizeS_mono l (k + 1)) HSZ.out)
      obtain ⟨n, hn⟩ : ∃ n, n = sizeS (l.take k) := ⟨_, rfl⟩
      rw [← hn] at HC ⊢
      have hb1 : n + (1 + l[k].1.2.length + l[k].2.length) ≤ 4611686018427387904 := by rw [← HC.out]; exact HM.out
      have g1 : wrap64 ((n : Int) + 1) = (n : Int) + 1 := IntWalk.wrap64_in _ (by omega)
      have g2 : wrap64 ((n : Int) + 1 + l[k].1.2.length) = (n : Int) + 1 + l[k].1.2.length := IntWalk.wrap64_in _ (by omega)
      have g3 : wrap64 ((n : Int) + 1 + l[k].1.2.length + l[k].2.length) = (n : Int) + 1 + l[k].1.2.length + l[k].2.length := IntWalk.wrap64_in _ (by omega)
      clear hn
      go_wp2
      go_quiet (fail)
      go_wp2
      exact ⟨⟨k + 1, by omega, by rw [HC.out]; congr 1; omega, rfl, _, rfl⟩, by simp [intOf]; omega⟩
    · obtain rfl : k = l.length := by omega
      have hge : ¬ (l.length : Int) < l.length := by omega
      rw [List.take_length]
      go_wp2
      go_ret
      exact ⟨rfl, (Below.refl _ w).drewN q⟩
theorem find_at {l : List E} {p : E → Bool} {k : Nat} (h : k < l.length) (hn : ∀ x ∈ l.take k, p x = false) (hk : p l[k] = true) : l.find? p = some l[k] := by
  have e : l = l.take k ++ l[k] :: l.drop (k + 1) := by rw [← List.drop_eq_getElem_cons h, List.take_append_drop]
  have h1 : (l.take k).find? p = none := List.find?_eq_none.2 (fun x hx => by rw [hn x hx]; decide)
  have h2 : (l[k] :: l.drop (k + 1)).find? p = some l[k] := by rw [List.find?_cons, hk]
  generalize l[k] = y at *
  rw [e, List.find?_append, h1, h2]
  rfl
theorem none_next {l : List E} {p : E → Bool} {k : Nat} (h : k < l.length) (hn : ∀ x ∈ l.take k, p x = false) (hk : p l[k] = false) : ∀ x ∈ l.take (k + 1), p x = false := by
  intro x hx
  rw [List.take_succ_eq_append_getElem h, List.mem_append] at hx
  rcases hx with hx | hx
  · exact hn x hx
  · rw [List.mem_singleton] at hx
    rw [hx]
    exact hk
/-- what Mac finds -/
def macV (s : List UInt8) (l : List E) : Value := match getS (0, s) l with
  | some v => .tuple #[.string ⟨v.toArray⟩, .bool true]
  | none => .tuple #[.string ⟨#[]⟩, .bool false]
theorem refMac_any (v : Value) (l : List E) (s : List UInt8) (w : World) (h : EntsAt w v l) (hl : l.length ≤ 1000000000) :
    Calls Tryz.prog 69 #[v, .string ⟨s.toArray⟩] w fun e w' => e = .returned (macV s l) ∧ Below w.heap.size w w' := by
  obtain ⟨a, cap, rfl, -, hx⟩ := h.opened
  have HX := Lib.hid hx
  clear hx h
  go_enter Tryz.func69, Tryz.ntmps69
  go_wp2
  go_loopw [6] (fun i wr => ∃ k : Nat, k ≤ l.length ∧ i = .int .i64 k ∧ (∀ x ∈ l.take k, ((0, s) == x.1) = false) ∧ ∃ q, wr = w.drewN q) (fun i _ => l.length - (intOf i).toNat)
  case atStart => exact ⟨0, Nat.zero_le _, rfl, (fun x hx => by cases hx), 0, rfl⟩
  case round =>
    obtain ⟨k, hk, rfl, hn, q, rfl⟩ := hrel
    have HN := Lib.hid hn
    clear hn
    by_cases hlt : k < l.length
    · have hlt' : (k : Int) < l.length := by omega
      obtain ⟨b1, o1, rfl, c0, c1, c2⟩ := HX.out k hlt
      have HF := Lib.hid (fun hk => find_at (p := fun x : E => (0, s) == x.1) hlt HN.out hk)
      have HG := Lib.hid (fun hk => none_next (p := fun x : E => (0, s) == x.1) hlt HN.out hk)
      generalize hlk : l[k] = x at *
      obtain ⟨⟨T, KB⟩, VB⟩ := x
      simp only at c0 c1 c2
      have HLK := Lib.hid hlk
      clear hlk
      by_cases hT : T = 0
      · subst hT
        cases hq : (KB == s) with
        | true =>
          have e : KB = s := beq_iff_eq.1 hq
          have HV : Hid (macV s l = .tuple #[.string ⟨VB.toArray⟩, .bool true]) := Lib.hid (by unfold macV getS; rw [HF.out (by rw [e]; exact beq_self_eq_true _)]; rfl)
          clear e
          go_wp2
          go_ret2
          exact ⟨by rw [HV.out]; rfl, (Below.refl _ w).drewN q⟩
        | false =>
          have HP : Hid (∀ x ∈ l.take (k + 1), ((0, s) == x.1) = false) := Lib.hid (HG.out (by rw [beq_eq_false_iff_ne] at hq ⊢; intro e; exact hq (Prod.mk.inj e).2.symm))
          go_wp2
          exact ⟨⟨k + 1, by omega, rfl, HP.out, _, rfl⟩, by simp [intOf]; omega⟩
      · have HP : Hid (∀ x ∈ l.take (k + 1), ((0, s) == x.1) = false) := Lib.hid (HG.out (by rw [beq_eq_false_iff_ne]; intro e; exact hT (Prod.mk.inj e).1.symm))
        go_wp2
        exact ⟨⟨k + 1, by omega, rfl, HP.out, _, rfl⟩, by simp [intOf]; omega⟩
    · obtain rfl : k = l.length := by omega
      have hge : ¬ (l.length : Int) < l.length := by omega
      have HV : Hid (macV s l = .tuple #[.string ⟨#[]⟩, .bool false]) := Lib.hid (by
        have h0 := HN.out
        rw [List.take_length] at h0
        have : l.find? (fun x : E => (0, s) == x.1) = none := List.find?_eq_none.2 (fun x hx => by rw [h0 x hx]; decide)
        unfold macV getS
        rw [this]
        rfl)
      go_wp2
      go_ret2
      exact ⟨by rw [HV.out]; rfl, (Below.refl _ w).drewN q⟩
/-- an entry of the list of protocols that speaks of n -/
def aclP (n : Int) (x : E) : Bool := x.1.1 == 2 && (x.2.headD 1 == 0 || ((x.2.headD 1).toNat : Int) == n)
/-- what Acl finds -/
def aclV (n : Int) (l : List E) : Value := match l.find? (aclP n) with
  | some x => .tuple #[.int .i64 ((x.2.getD 1 0).toNat : Int), .bool true]
  | none => .tuple #[.int .i64 0, .bool false]
def AclsTwo (l : List E) : Prop := ∀ x ∈ l, x.1.1 = 2 → ∃ a b, x.2 = [a, b]
theorem refAcl_any (v : Value) (l : List E) (n : Int) (w : World) (h : EntsAt w v l) (hl : l.length ≤ 1000000000) (hA : AclsTwo l) :
    Calls Tryz.prog 73 #[v, .int .i64 n] w fun e w' => e = .returned (aclV n l) ∧ Below w.heap.size w w' := by
  obtain ⟨a, cap, rfl, -, hx⟩ := h.opened
  have HX := Lib.hid hx
  clear hx h
  go_enter Tryz.func73, Tryz.ntmps73
  go_wp2
  go_loopw [6] (fun i wr => ∃ k : Nat, k ≤ l.length ∧ i = .int .i64 k ∧ (∀ x ∈ l.take k, aclP n x = false) ∧ ∃ q, wr = w.drewN q) (fun i _ => l.length - (intOf i).toNat)
  case atStart => exact ⟨0, Nat.zero_le _, rfl, (fun x hx => by cases hx), 0, rfl⟩
  case round =>
    obtain ⟨k, hk, rfl, hn, q, rfl⟩ := hrel
    have HN := Lib.hid hn
    clear hn
    by_cases hlt : k < l.length
    · have hlt' : (k : Int) < l.length := by omega
      obtain ⟨b1, o1, rfl, c0, c1, c2⟩ := HX.out k hlt
      have HF := Lib.hid (fun hk => find_at (p := aclP n) hlt HN.out hk)
      have HG := Lib.hid (fun hk => none_next (p := aclP n) hlt HN.out hk)
      have hA1 := hA _ (List.getElem_mem hlt)
      generalize hlk : l[k] = x at *
      obtain ⟨⟨T, KB⟩, VB⟩ := x
      simp only at c0 c1 c2 hA1
      clear hlk
      by_cases hT : T = 2
      · subst hT
        obtain ⟨va, vb, rfl⟩ := hA1 rfl
        have hv0 := va.toNat_lt
        have hv1 := vb.toNat_lt
        have i0 : ∀ w, (Instr.index 9 (.string ⟨[va, vb].toArray⟩) (.int .i64 0)).run Tryz.prog w = .ok (.int .u8 va.toNat) w := fun w => run_index_str Tryz.underlying9 _ _ 0 va (by decide) rfl w
        have i1 : ∀ w, (Instr.index 9 (.string ⟨[va, vb].toArray⟩) (.int .i64 1)).run Tryz.prog w = .ok (.int .u8 vb.toNat) w := fun w => run_index_str Tryz.underlying9 _ _ 1 vb (by decide) rfl w
        have g0 : wrap64 (va.toNat : Int) = va.toNat := IntWalk.wrap64_in _ (by omega)
        have g1 : wrap64 (vb.toNat : Int) = vb.toNat := IntWalk.wrap64_in _ (by omega)
        have hz : ∀ c : UInt8, (c == 0) = decide ((c.toNat : Int) = 0) := fun c => by
          rw [Bool.eq_iff_iff, beq_iff_eq, decide_eq_true_iff]
          exact ⟨fun e => by rw [e]; rfl, fun e => UInt8.toNat_inj.1 (by rw [show c.toNat = 0 by omega]; rfl)⟩
        by_cases h0 : (va.toNat : Int) = 0
        · have HV : Hid (aclV n l = .tuple #[.int .i64 (vb.toNat : Int), .bool true]) := Lib.hid (by unfold aclV; rw [HF.out (by simp [aclP, hz, h0])]; rfl)
          have e0 : ((va.toNat : Int) == 0) = true := by rw [beq_iff_eq]; exact h0
          clear h0 hz
          go_wp2
          go_ret2
          exact ⟨by rw [HV.out]; rfl, (Below.refl _ w).drewN q⟩
        · have e0 : ((va.toNat : Int) == 0) = false := by rw [beq_eq_false_iff_ne]; exact h0
          by_cases h1 : (va.toNat : Int) = n
          · have HV : Hid (aclV n l = .tuple #[.int .i64 (vb.toNat : Int), .bool true]) := Lib.hid (by unfold aclV; rw [HF.out (by simp [aclP, h1])]; rfl)
            have e1 : ((va.toNat : Int) == n) = true := by rw [beq_iff_eq]; exact h1
            clear h0 h1 hz
            go_wp2
            go_ret2
            exact ⟨by rw [HV.out]; rfl, (Below.refl _ w).drewN q⟩
          · have HP : Hid (∀ x ∈ l.take (k + 1), aclP n x = false) := Lib.hid (HG.out (by simp only [aclP, List.headD_cons]; simp [hz, h1]; omega))
            have e1 : ((va.toNat : Int) == n) = false := by rw [beq_eq_false_iff_ne]; exact h1
            clear h0 h1 hz
            go_wp2
            exact ⟨⟨k + 1, by omega, rfl, HP.out, _, rfl⟩, by simp [intOf]; omega⟩
      · have HP : Hid (∀ x ∈ l.take (k + 1), aclP n x = false) := Lib.hid (HG.out (by simp [aclP, hT]))
        go_wp2
        exact ⟨⟨k + 1, by omega, rfl, HP.out, _, rfl⟩, by simp [intOf]; omega⟩
    · obtain rfl : k = l.length := by omega
      have hge : ¬ (l.length : Int) < l.length := by omega
      have HV : Hid (aclV n l = .tuple #[.int .i64 0, .bool false]) := Lib.hid (by
        have h0 := HN.out
        rw [List.take_length] at h0
        have : l.find? (aclP n) = none := List.find?_eq_none.2 (fun x hx => by rw [h0 x hx]; decide)
        unfold aclV
        rw [this])
      go_wp2
      go_ret2
      exact ⟨by rw [HV.out]; rfl, (Below.refl _ w).drewN q⟩
set_option maxRecDepth 100000 in
set_option maxHeartbeats 1000000 in
theorem lawSameEntries_true (sv tv : Value) (l : List E) (w : World) (h1 : EntsAt w sv l) (h2 : EntsAt w tv l) (hl : l.length ≤ 1000000000) :
    Calls Tryz.prog 63 #[sv, tv] w fun e w' => e = .returned (.bool true) ∧ Below w.heap.size w w' := by
  obtain ⟨a, cap, rfl, -, hx⟩ := h1.opened
  obtain ⟨b, cap2, rfl, -, hy⟩ := h2.opened
  have HX := Lib.hid hx
  have HY := Lib.hid hy
  clear hx hy h1 h2
  go_enter Tryz.func63, Tryz.ntmps63
  go_wp2
  go_loopw [5] (fun i wr => ∃ k : Nat, k ≤ l.length ∧ i = .int .i64 k ∧ ∃ q, wr = w.drewN q) (fun i _ => l.length - (intOf i).toNat)
  case atStart => exact ⟨0, Nat.zero_le _, rfl, 0, rfl⟩
  case round =>
    obtain ⟨k, hk, rfl, q, rfl⟩ := hrel
    by_cases hlt : k < l.length
    · have hlt' : (k : Int) < l.length := by omega
      obtain ⟨b1, o1, rfl, c0, c1, c2⟩ := HX.out k hlt
      obtain ⟨b2, o2, rfl, d0, d1, d2⟩ := HY.out k hlt
      generalize l[k] = o at *
      obtain ⟨⟨T, KB⟩, VB⟩ := o
      go_wp2
      go_quiet (fail)
      go_wp2
      exact ⟨⟨k + 1, by omega, by go_num, _, rfl⟩, by simp [intOf]; omega⟩
    · obtain rfl : k = l.length := by omega
      have hge : ¬ (l.length : Int) < l.length := by omega
      go_wp2
      go_ret
      exact ⟨rfl, (Below.refl _ w).drewN q⟩
end Go.Proofs.YtkkfmkhbdoeglaaGreatDoor

/- The contracts of entries' Count and Mac, and of package plain's (*Folded).Count, .Mac and .Route. No condition. -/
namespace Go.Proofs.YtkkfmkhbdoeglaaGreatDoor
open Go.RowKit

set_option maxRecDepth 100000 in
set_option maxHeartbeats 1000000 in
theorem count_any (q off r : Nat) (S : List E) (t : Int) (w : World) (he : EntAt w q off r S) (hl : S.length ≤ 1000000000) :
    Calls Tryz.prog 106 #[.pointer (some ⟨q, off, none⟩), .int .i64 t] w fun e w' => e = .returned (.int .i64 (countS t S : Nat)) ∧ Below w.heap.size w w' := by
  have hc := he.cell
  obtain ⟨hso, L, hmap, hp⟩ := he.tab
  have HP := Lib.hid hp
  have HN := Lib.hid hso.nodup
  clear he hso hp
  go_enter Tryz.func106, Tryz.ntmps106
  go_wp2_with (first | (refine wpList_range_at rfl _ rfl Tryz.underlying107 rfl hmap ?_; intro w0 hrg0 hb0 hs0) | fail)
  try go_frame
  go_loopw [5] (fun n wr => ∃ l : List E, RangeAt wr r w.heap.size L (l.map zS) ∧ n = .int .i64 (countS t l : Nat) ∧ Below w.heap.size w wr) (fun _ wr => wr.rangeLeft r w.heap.size)
  case atStart => exact ⟨[], hrg0, rfl, hb0⟩
  case round =>
    obtain ⟨l, hrg, rfl, hbr⟩ := hrel
    go_wp2_with (first | (refine wpList_next_at rfl _ rfl rfl hrg ?_ ?_) | fail)
    · intro hpm
      have HPE := Lib.hid (countS_perm t (perm_zS (nodup_zS hrg.sub.2.2) HN.out (hpm.trans HP.out)))
      go_wp2
      go_ret
      exact ⟨by rw [HPE.out]; rfl, hbr⟩
    · intro kt kb v w2 hx hxn hrg2 hg2 hs2 hen hrq
      obtain ⟨⟨k', vb⟩, hxS, e⟩ := List.mem_map.1 (HP.out.mem_iff.1 hx)
      cases e
      have hrg3 : RangeAt w2 r w.heap.size L ((l ++ [((kt, kb), vb)]).map zS) := by rw [List.map_append]; exact hrg2
      have hnd := nodup_zS hrg3.sub.2.2
      have hcl : countS t l ≤ 1000000000 := by
        have h1 : countS t l ≤ l.length := List.countP_le_length
        have h2 : l.length ≤ S.length := length_sub (nodup_zS hrg.sub.2.2) (fun y hy => mem_zS (HP.out.mem_iff.1 (hrg.sub.1 _ (List.mem_map.2 ⟨y, hy, rfl⟩))))
        omega
      have HSN := Lib.hid (countS_snoc t l ((kt, kb), vb))
      have HR3 := Lib.hid hrg3
      have hsw := hbr.size
      have hb2 : Below w.heap.size w w2 := hbr.grown hg2 hbr.size (fun j e => by cases e; exact Nat.le_refl _)
      have HRG := Lib.hid hrg
      clear hrg2 hrg3 hx hxn hxS hrg hnd
      unfold strV at hen
      by_cases ht : kt = t
      · subst ht
        have HS2 : Hid (countS kt (l ++ [((kt, kb), vb)]) = countS kt l + 1) := Lib.hid (by rw [HSN.out, if_pos rfl])
        go_wp2
        have hal : Below w2.heap.size w2 (w2.alloc (.cells #[.int .i64 kt, .string ⟨kb.toArray⟩] 94)) := (Below.refl _ w2).alloc (Nat.le_refl _) _
        have hR4 := HR3.out.frame (hal.block _ HR3.out.lt.1) (hal.block _ HR3.out.lt.2)
        have hl4 := hR4.left
        have hl0 := HRG.out.left
        simp only [List.length_map, List.length_append, List.length_cons, List.length_nil] at hl4 hl0
        exact ⟨⟨_, hR4, by rw [HS2.out]; rfl, hb2.trans (hal.mono hb2.size)⟩, by omega⟩
      · have HS2 : Hid (countS t (l ++ [((kt, kb), vb)]) = countS t l) := Lib.hid (by rw [HSN.out, if_neg ht]; rfl)
        go_wp2
        have hal : Below w2.heap.size w2 (w2.alloc (.cells #[.int .i64 kt, .string ⟨kb.toArray⟩] 94)) := (Below.refl _ w2).alloc (Nat.le_refl _) _
        have hR4 := HR3.out.frame (hal.block _ HR3.out.lt.1) (hal.block _ HR3.out.lt.2)
        have hl4 := hR4.left
        have hl0 := HRG.out.left
        simp only [List.length_map, List.length_append, List.length_cons, List.length_nil] at hl4 hl0
        exact ⟨⟨_, hR4, by rw [HS2.out], hb2.trans (hal.mono hb2.size)⟩, by omega⟩
theorem foldedCount_any (fb q r : Nat) (S : List E) (t : Int) (w : World) (h : FoldAt w fb q r S) (hl : S.length ≤ 1000000000) :
    Calls Tryz.prog 66 #[.pointer (some ⟨fb, 0, none⟩), .int .i64 t] w fun e w' => e = .returned (.int .i64 (countS t S : Nat)) ∧ Below w.heap.size w w' := by
  have hc := h.cell
  have hc2 := h.ent.cell
  have HL := Lib.hid (count_any q 0 r S t w h.ent hl)
  clear h
  go_enter Tryz.func66, Tryz.ntmps66
  go_wp2_with fail
  refine HL.out.mono ?_
  rintro e w2 ⟨rfl, hb2⟩
  clear hc hc2 HL
  go_wp2
  go_ret
  exact ⟨rfl, hb2⟩
set_option maxRecDepth 100000 in
set_option maxHeartbeats 1000000 in
theorem mac_any (q off r : Nat) (S : List E) (s : List UInt8) (w : World) (he : EntAt w q off r S) :
    Calls Tryz.prog 107 #[.pointer (some ⟨q, off, none⟩), .string ⟨s.toArray⟩] w fun e w' => e = .returned (macV s S) ∧ Below w.heap.size w w' := by
  have hc := he.cell
  have hlk := TabAt.lookup_ok (w := w) he.tab (mt := 107) Tryz.underlying107 (zeroVal _) (0, s)
  simp only [kV, keyV, strV] at hlk
  clear he
  cases hg : getS (0, s) S with
  | some v =>
    rw [hg] at hlk
    simp only [Option.getD_some, Option.isSome_some] at hlk
    have HV : Hid (macV s S = .tuple #[.string ⟨v.toArray⟩, .bool true]) := Lib.hid (by unfold macV; rw [hg])
    clear hg
    go_enter Tryz.func107, Tryz.ntmps107
    go_wp2
    go_ret2
    exact ⟨by rw [HV.out]; rfl, (Below.refl _ w).alloc (Nat.le_refl _) _⟩
  | none =>
    rw [hg] at hlk
    simp only [Option.getD_none, Option.isSome_none] at hlk
    have HV : Hid (macV s S = .tuple #[.string ⟨#[]⟩, .bool false]) := Lib.hid (by unfold macV; rw [hg])
    clear hg
    go_enter Tryz.func107, Tryz.ntmps107
    go_wp2
    go_ret2
    exact ⟨by rw [HV.out]; rfl, (Below.refl _ w).alloc (Nat.le_refl _) _⟩
theorem foldedMac_any (fb q r : Nat) (S : List E) (s : List UInt8) (w : World) (h : FoldAt w fb q r S) :
    Calls Tryz.prog 68 #[.pointer (some ⟨fb, 0, none⟩), .string ⟨s.toArray⟩] w fun e w' => e = .returned (macV s S) ∧ Below w.heap.size w w' := by
  have hc := h.cell
  have hc2 := h.ent.cell
  have hm := mac_any q 0 r S s w h.ent
  obtain ⟨a, b, hv⟩ : ∃ a b, macV s S = .tuple #[a, b] := by unfold macV; split <;> exact ⟨_, _, rfl⟩
  rw [hv] at hm ⊢
  have HL := Lib.hid hm
  clear h hm hv
  go_enter Tryz.func68, Tryz.ntmps68
  go_wp2_with fail
  refine HL.out.mono ?_
  rintro e w2 ⟨rfl, hb2⟩
  clear hc hc2 HL
  go_wp2
  go_ret2
  exact ⟨rfl, hb2⟩
/-- what Route finds -/
def rouV (s : List UInt8) (S : List E) : Value := match s with
  | [a, b, c, d] => routeV (routeN (be32 a b c d) S 32)
  | _ => routeV none
theorem foldedRouteV_any (fb q r : Nat) (S : List E) (s : List UInt8) (w : World) (h : FoldAt w fb q r S) (hs : s.length ≤ maxB) :
    Calls Tryz.prog 70 #[.pointer (some ⟨fb, 0, none⟩), .string ⟨s.toArray⟩] w fun e w' => e = .returned (rouV s S) ∧ Below w.heap.size w w' := by
  have hc := h.cell
  have hc2 := h.ent.cell
  have hm : Calls Tryz.prog 108 #[.pointer (some ⟨q, 0, none⟩), .string ⟨s.toArray⟩] w fun e w' => e = .returned (rouV s S) ∧ Below w.heap.size w w' := by
    by_cases h4 : s.length = 4
    · obtain ⟨a, b, c, d, rfl⟩ := length4 h4
      exact route_any q 0 r S a b c d w h.ent
    · have e : rouV s S = routeV none := by
        unfold rouV
        split
        · exact absurd rfl h4
        · rfl
      rw [e]
      exact route_short q 0 r S s w h.ent hs h4
  obtain ⟨a, b, hv⟩ : ∃ a b, rouV s S = .tuple #[a, b] := by unfold rouV routeV; split <;> split <;> exact ⟨_, _, rfl⟩
  rw [hv] at hm ⊢
  have HL := Lib.hid hm
  clear h hm hv
  go_enter Tryz.func70, Tryz.ntmps70
  go_wp2_with fail
  refine HL.out.mono ?_
  rintro e w2 ⟨rfl, hb2⟩
  clear hc hc2 HL
  go_wp2
  go_ret2
  exact ⟨rfl, hb2⟩
end Go.Proofs.YtkkfmkhbdoeglaaGreatDoor

/- The contract of package overlayref's Route: what it finds is what the program's Route finds. No condition. -/
namespace Go.Proofs.YtkkfmkhbdoeglaaGreatDoor
open Go.RowKit

/-- every key of the table of routes is one -/
def RoutesGood (l : List E) : Prop := ∀ x ∈ l, x.1.1 = 1 → isKeyB 1 x.1.2 = true
theorem route_key {k : List UInt8} (h : isKeyB 1 k = true) : ∃ a b c d e : UInt8, k = [a, b, c, d, e] ∧ e.toNat ≤ 32 ∧ k = keyA (be32 a b c d) e.toNat ∧ cutN (be32 a b c d) e.toNat = be32 a b c d := by
  have hl := isKeyB_length h
  obtain ⟨a, b, c, d, e, rfl⟩ := length5 hl
  have h2 : e.toNat ≤ 32 ∧ be32 a b c d * 2 ^ e.toNat % 4294967296 = 0 := by simpa [isKeyB] using h
  have ha := a.toNat_lt
  have hb := b.toNat_lt
  have hc := c.toNat_lt
  have hd := d.toNat_lt
  have hN : be32 a b c d < 4294967296 := by unfold be32; omega
  refine ⟨a, b, c, d, e, rfl, h2.1, ?_, ?_⟩
  · unfold keyA
    rw [(be4_eq _ hN a b c d).2 rfl, UInt8.ofNat_toNat]
    rfl
  · generalize be32 a b c d = N at *
    generalize e.toNat = n at *
    unfold cutN topN
    have hp : (4294967296 : Nat) = 2 ^ (32 - n) * 2 ^ n := by rw [← Nat.pow_add, show 32 - n + n = 32 by omega]
    have h3 : N * 2 ^ n % (2 ^ (32 - n) * 2 ^ n) = 0 := by rw [← hp]; exact h2.2
    rw [Nat.mul_mod_mul_right] at h3
    have h4 : N % 2 ^ (32 - n) = 0 := by
      rcases Nat.mul_eq_zero.1 h3 with h | h
      · exact h
      · exact absurd h (Nat.ne_of_gt (Nat.two_pow_pos _))
    exact Nat.div_mul_cancel (Nat.dvd_of_mod_eq_zero h4)
def onlyR (l : List E) : List E := l.filter fun x => x.1.1 == 1
theorem getS_only (k : List UInt8) (l : List E) : getS (1, k) (onlyR l) = getS (1, k) l := by
  unfold getS onlyR
  rw [List.find?_filter]
  congr 2
  funext x
  cases h : ((1, k) == x.1) with
  | true =>
    have e : (1, k) = x.1 := beq_iff_eq.1 h
    rw [← e]; rfl
  | false => simp
theorem routeN_only (A : Nat) (l : List E) : ∀ n, routeN A (onlyR l) n = routeN A l n
  | 0 => getS_only _ _
  | n + 1 => by
    unfold routeN
    rw [getS_only, routeN_only A l n]
theorem put_last {S : List E} {k : K} {v : List UInt8} (h : ∀ x ∈ S, ltK x.1 k = true) : putS k v S = S ++ [(k, v)] := by
  unfold putS
  rw [List.filter_eq_self.2 h, List.filter_eq_nil_iff.2 (fun x hx => by rw [ltK_asymm (h x hx)]; decide)]
theorem LongInv.next {A : Nat} {l : List E} {k : Nat} {best : Int} {value : List UInt8} {a b c d e : UInt8} {v : List UInt8} (hs : SortedE l) (hk : k < l.length) (hx : l[k] = ((1, [a, b, c, d, e]), v)) (h : LongInv A (onlyR (l.take k)) best value) (hA : A < 4294967296) (h32 : e.toNat ≤ 32) (hkey : [a, b, c, d, e] = keyA (be32 a b c d) e.toNat) (_hN : be32 a b c d < 4294967296) :
    LongInv A (onlyR (l.take (k + 1))) (if cutN A e.toNat = be32 a b c d ∧ best < e.toNat then (e.toNat : Int) else best) (if cutN A e.toNat = be32 a b c d ∧ best < e.toNat then v else value) := by
  have hlt : ∀ x ∈ onlyR (l.take k), ltK x.1 l[k].1 = true := by
    intro x hx
    have ht : l.take (k + 1) = l.take k ++ [l[k]] := List.take_succ_eq_append_getElem hk
    have hs' : SortedE (l.take k ++ [l[k]]) := by rw [← ht]; exact hs.sublist (List.take_sublist _ _)
    exact (List.pairwise_append.1 hs').2.2 x (List.mem_filter.1 hx).1 _ (by simp)
  have e1 : onlyR (l.take (k + 1)) = onlyR (l.take k) ++ [l[k]] := by
    unfold onlyR
    rw [List.take_succ_eq_append_getElem hk, filter_snoc', hx]
    rfl
  rw [e1]
  rw [hx] at hlt ⊢
  have h2 := h.step (v := v) hA h32 _hN (fun x hx' e => by
    have := hlt x hx'
    rw [e, ← hkey] at this
    exact ltK_ne this rfl)
  rw [← hkey, put_last hlt] at h2
  exact h2
theorem only_skip {l : List E} {k : Nat} (hk : k < l.length) (hx : ¬ l[k].1.1 = 1) : onlyR (l.take (k + 1)) = onlyR (l.take k) := by
  unfold onlyR
  rw [List.take_succ_eq_append_getElem hk, filter_snoc', if_neg (by simpa using hx), List.append_nil]
/-- behind k rounds of Route -/
def RRouteRel (w : World) (A : Nat) (l : List E) (bv vv i : Value) (wr : World) : Prop :=
  ∃ k, k ≤ l.length ∧ i = .int .i64 (k : Int) ∧ ∃ (best : Int) (value : List UInt8), bv = .int .i64 best ∧ vv = .string ⟨value.toArray⟩ ∧ LongInv A (onlyR (l.take k)) best value ∧ ∃ q, wr = w.drewN q
theorem LongInv.bounds {A : Nat} {S : List E} {best : Int} {value : List UInt8} (h : LongInv A S best value) : -1 ≤ best ∧ best ≤ 32 ∧ (best < 0 → value = []) := by
  obtain ⟨-, -, ⟨rfl, rfl, -⟩ | ⟨b, rfl, hb, -⟩⟩ := h
  · exact ⟨by omega, by omega, fun _ => rfl⟩
  · exact ⟨by omega, by omega, fun h => by omega⟩
theorem bitsN_top (N n : Nat) (hN : N < 4294967296) : bitsN N 0 n = topN N n := by
  unfold bitsN topN
  rw [show 32 - 0 = 32 from rfl, Nat.mod_eq_of_lt hN]
theorem RRouteRel.done {A : Nat} {l : List E} {best : Int} {value : List UInt8} (h : LongInv A (onlyR l) best value) (hA : A < 4294967296) : routeV (routeN A l 32) = .tuple #[.string ⟨value.toArray⟩, .bool (decide (0 ≤ best))] := by
  have hb := h.bounds
  rw [← routeN_only, routeN_spec h hA 32 (by omega) (Nat.le_refl _)]
  by_cases h0 : best < 0
  · rw [if_pos h0, hb.2.2 h0, decide_eq_false (by omega)]
    rfl
  · rw [if_neg h0, decide_eq_true (by omega)]
    rfl
set_option maxRecDepth 100000 in
set_option maxHeartbeats 1000000 in
theorem refRoute_short (v : Value) (_l : List E) (s : List UInt8) (w : World) (_hl : s.length ≤ maxB) (h4 : s.length ≠ 4) :
    Calls Tryz.prog 71 #[v, .string ⟨s.toArray⟩] w fun e w' => e = .returned (routeV none) ∧ Below w.heap.size w w' := by
  unfold maxB at _hl
  have hne : ((s.length : Int) != 4) = true := by rw [bne_iff_ne]; omega
  go_enter Tryz.func71, Tryz.ntmps71
  go_wp2
  go_ret2
  exact ⟨rfl, Below.refl _ _⟩
set_option maxRecDepth 100000 in
set_option maxHeartbeats 2000000 in
theorem refRoute_any (v : Value) (l : List E) (x0 x1 x2 x3 : UInt8) (w : World) (h : EntsAt w v l) (hl : l.length ≤ 1000000000) (hs : SortedE l) (hR : RoutesGood l) :
    Calls Tryz.prog 71 #[v, .string ⟨[x0, x1, x2, x3].toArray⟩] w fun e w' => e = .returned (routeV (routeN (be32 x0 x1 x2 x3) l 32)) ∧ Below w.heap.size w w' := by
  have hA : be32 x0 x1 x2 x3 < 4294967296 := by
    have := x0.toNat_lt; have := x1.toNat_lt; have := x2.toNat_lt; have := x3.toNat_lt
    unfold be32; omega
  have HBA := Lib.hid (fun (n : Nat) (hn : n ≤ 32) W => refBits_any x0 x1 x2 x3 [] 0 n W (by omega) hn (by simp))
  generalize be32 x0 x1 x2 x3 = A at *
  obtain ⟨a, cap, rfl, -, hx⟩ := h.opened
  have HX := Lib.hid hx
  have HS := Lib.hid hs
  clear hx h hs
  go_enter Tryz.func71, Tryz.ntmps71
  go_wp2
  go_loopw [6, 7, 8] (fun bv vv i wr => RRouteRel w A l bv vv i wr) (fun _ _ i _ => l.length - (intOf i).toNat)
  case atStart => exact ⟨0, Nat.zero_le _, rfl, -1, [], rfl, rfl, LongInv.start A, 0, rfl⟩
  case round =>
    obtain ⟨k, hk, rfl, best, value, rfl, rfl, hinv, q, rfl⟩ := hrel
    have HI := Lib.hid hinv
    obtain ⟨hb1, hb2, hb3⟩ := hinv.bounds
    clear hinv hb3
    by_cases hlt : k < l.length
    · have hlt' : (k : Int) < l.length := by omega
      obtain ⟨eb, eo, rfl, c0, c1, c2⟩ := HX.out k hlt
      have hR1 := hR _ (List.getElem_mem hlt)
      have HN := Lib.hid (fun (a b c d e : UInt8) (v : List UInt8) hx => LongInv.next (a := a) (b := b) (c := c) (d := d) (e := e) (v := v) HS.out hlt hx HI.out hA)
      have HK := Lib.hid (only_skip hlt)
      generalize hlk : l[k] = x at *
      obtain ⟨⟨T, KB⟩, VB⟩ := x
      simp only at c0 c1 c2 hR1
      clear hlk
      by_cases hT : T = 1
      · subst hT
        obtain ⟨a, b, c, d, e, rfl, h32, hkey, hcut⟩ := route_key (hR1 rfl)
        have hN : be32 a b c d < 4294967296 := by
          have := a.toNat_lt; have := b.toNat_lt; have := c.toNat_lt; have := d.toNat_lt
          unfold be32; omega
        have HNX := Lib.hid (HN.out a b c d e VB rfl h32 hkey hN)
        have HBN := Lib.hid (fun W => refBits_any a b c d [e] 0 e.toNat W (by omega) h32 (by simp))
        have i4 : ∀ w, (Instr.index 9 (.string ⟨[a, b, c, d, e].toArray⟩) (.int .i64 4)).run Tryz.prog w = .ok (.int .u8 e.toNat) w := fun w => run_index_str Tryz.underlying9 _ _ 4 e (by decide) rfl w
        have g0 : wrap64 (e.toNat : Int) = e.toNat := IntWalk.wrap64_in _ (by omega)
        have HCE := Lib.hid (cut_eq (A := A) hcut)
        generalize be32 a b c d = N at *
        have HBT := Lib.hid (bitsN_top N e.toNat hN)
        have HBT2 := Lib.hid (bitsN_top A e.toNat hA)
        have HE32 := Lib.hid (HBA.out e.toNat h32)
        clear hkey hcut hR1
        by_cases hgt : best < (e.toNat : Int)
        · cases hd : decide (topN A e.toNat = topN N e.toNat) with
          | true =>
            have hc : cutN A e.toNat = N ∧ best < e.toNat := ⟨HCE.out.2 (of_decide_eq_true hd), hgt⟩
            have HR1 : Hid (LongInv A (onlyR (l.take (k + 1))) e.toNat VB) := Lib.hid (by have := HNX.out; rw [if_pos hc, if_pos hc] at this; exact this)
            have hq : ((bitsN N 0 e.toNat : Nat) : Int) = ((bitsN A 0 e.toNat : Nat) : Int) := by rw [HBT.out, HBT2.out, of_decide_eq_true hd]
            clear hd hc
            go_wp2_with fail
            refine (HBN.out _).mono ?_
            rintro r w' ⟨rfl, rfl⟩
            go_wp2_with fail
            refine (HE32.out _).mono ?_
            rintro r w' ⟨rfl, rfl⟩
            go_wp2
            exact ⟨⟨k + 1, by omega, rfl, _, _, rfl, rfl, HR1.out, _, rfl⟩, by simp [intOf]; omega⟩
          | false =>
            have hc : ¬ (cutN A e.toNat = N ∧ best < e.toNat) := fun h => (of_decide_eq_false hd) (HCE.out.1 h.1)
            have HR1 : Hid (LongInv A (onlyR (l.take (k + 1))) best value) := Lib.hid (by have := HNX.out; rw [if_neg hc, if_neg hc] at this; exact this)
            have hq : ¬ ((bitsN N 0 e.toNat : Nat) : Int) = ((bitsN A 0 e.toNat : Nat) : Int) := by rw [HBT.out, HBT2.out]; intro h; exact (of_decide_eq_false hd) (by omega)
            clear hd hc
            go_wp2_with fail
            refine (HBN.out _).mono ?_
            rintro r w' ⟨rfl, rfl⟩
            go_wp2_with fail
            refine (HE32.out _).mono ?_
            rintro r w' ⟨rfl, rfl⟩
            go_wp2
            exact ⟨⟨k + 1, by omega, rfl, _, _, rfl, rfl, HR1.out, _, rfl⟩, by simp [intOf]; omega⟩
        · have hc : ¬ (cutN A e.toNat = N ∧ best < e.toNat) := fun h => hgt h.2
          have HR1 : Hid (LongInv A (onlyR (l.take (k + 1))) best value) := Lib.hid (by have := HNX.out; rw [if_neg hc, if_neg hc] at this; exact this)
          clear hc
          go_wp2
          exact ⟨⟨k + 1, by omega, rfl, _, _, rfl, rfl, HR1.out, _, rfl⟩, by simp [intOf]; omega⟩
      · have HR1 : Hid (LongInv A (onlyR (l.take (k + 1))) best value) := Lib.hid (by rw [HK.out hT]; exact HI.out)
        go_wp2
        exact ⟨⟨k + 1, by omega, rfl, _, _, rfl, rfl, HR1.out, _, rfl⟩, by simp [intOf]; omega⟩
    · obtain rfl : k = l.length := by omega
      have hge : ¬ (l.length : Int) < l.length := by omega
      rw [List.take_length] at HI
      have HD := Lib.hid (RRouteRel.done HI.out hA)
      cases hd : decide (0 ≤ best) with
      | true =>
        have h0 : 0 ≤ best := of_decide_eq_true hd
        have HV : Hid (routeV (routeN A l 32) = .tuple #[.string ⟨value.toArray⟩, .bool true]) := Lib.hid (by rw [HD.out, hd])
        clear hd
        go_wp2
        go_ret2
        exact ⟨by rw [HV.out]; rfl, (Below.refl _ w).drewN q⟩
      | false =>
        have h0 : ¬ 0 ≤ best := of_decide_eq_false hd
        have HV : Hid (routeV (routeN A l 32) = .tuple #[.string ⟨value.toArray⟩, .bool false]) := Lib.hid (by rw [HD.out, hd])
        clear hd
        go_wp2
        go_ret2
        exact ⟨by rw [HV.out]; rfl, (Below.refl _ w).drewN q⟩
end Go.Proofs.YtkkfmkhbdoeglaaGreatDoor
